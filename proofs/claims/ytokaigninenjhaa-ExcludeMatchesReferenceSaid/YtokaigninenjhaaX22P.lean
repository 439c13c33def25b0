/- Functions as the abstract executor tells them: equations, and contracts; printed by a tool. -/
import Derived.Test.YtokaigninenjhaaVsL
namespace Go.Proofs.Ytokaigninenjhaa.V22
open Go Go.Vx Go.Proofs
set_option linter.unusedVariables false
set_option maxRecDepth 100000
noncomputable def plexusref01_Prime.s0 : Go.Vx.Spec := ⟨[none], (K.int IntKind.i64), [.im (K.bool)], .one (none), false, fun _ => none⟩
noncomputable def plexusref01_Prime.fns (k : Nat) : Go.Vx.Fns := []
theorem plexusref01_Prime.fns_good (k : Nat) : (plexusref01_Prime.fns k).good Try.prog := Go.Vx.Fns.good_nil
def plexusref01_Prime.ann : List (Nat × Ann) := [(1000004, ⟨rg [(1, 2), (4, 13)], []⟩)]
noncomputable def plexusref01_Prime.lay : Lay := .nil
theorem plexusref01_Prime.lay_good : plexusref01_Prime.lay.good Try.prog := True.intro
noncomputable def plexusref01_Prime.pl : Pl := ⟨0, plexusref01_Prime.lay, plexusref01_Prime.ann, (Go.Vx.bodyOf Try.f74)⟩
noncomputable def plexusref01_Prime.l0 (n_ k : Nat)  (a0 : Int) (v1 : Int) : Option (Bool) :=
  loopK n_ (execP Try.prog (plexusref01_Prime.fns k) k (plC [1, 1, 0, 1, 0, 0] plexusref01_Prime.pl)) (nmP (plC [1, 1, 0, 1, 0, 0] plexusref01_Prime.pl)) ({ tmps := [AV.val (Value.int IntKind.i64 a0)] ++ dz 2 ++ [AV.val (Value.int IntKind.i64 v1)] ++ dz 13, ents := [], nx := 0 }) (contP Try.prog (plexusref01_Prime.fns k) k [1, 1, 0, 1, 0] [] plexusref01_Prime.pl (finK Try.prog (plexusref01_Prime.s0) Try.f74.results.toList))
theorem plexusref01_Prime.l0_succ (n0 k : Nat)  (a0 : Int) (v1 : Int) : plexusref01_Prime.l0 (n0 + 1) k  a0 (v1) = (if (decide (IntKind.wrap IntKind.i64 (v1 * v1) ≤ a0)) = true then (if v1 = 0 then none else (if (divF BinOp.rem IntKind.i64 a0 v1 == 0) = true then some (false) else (plexusref01_Prime.l0 n0 k  a0 (IntKind.wrap IntKind.i64 (v1 + 1))))) else some (true)) := by kernel_rfl
noncomputable def plexusref01_Prime.m0 (k : Nat) (a0 : Int) : Option (Bool) :=
  execFI Try.prog (plexusref01_Prime.fns k) plexusref01_Prime.lay plexusref01_Prime.ann k (plexusref01_Prime.s0) 17 Try.f74.results.toList (Go.Vx.bodyOf Try.f74) a0
noncomputable def plexusref01_Prime.m : (Nat) → (Int) → Option (Bool) := hide plexusref01_Prime.m0
theorem plexusref01_Prime.m_hid : plexusref01_Prime.m = plexusref01_Prime.m0 := hide_eq _
theorem plexusref01_Prime.m_eq (k : Nat) (a0 : Int) : plexusref01_Prime.m k a0 = (if (decide (a0 < 2)) = true then some (false) else (plexusref01_Prime.l0 k k  a0 (2))) := by
  rw [plexusref01_Prime.m_hid]
  kernel_rfl
noncomputable def plexusref01_Prime.sp (k : Nat) : Go.Vx.Spec := plexusref01_Prime.s0.runs fun (x : plexusref01_Prime.s0.argK.T) => plexusref01_Prime.m k x
theorem plexusref01_Prime.good (k : Nat) : Go.Vx.Good Try.prog 74 (plexusref01_Prime.sp k) := Go.Vx.good_runsI Try.func74 (show Try.f74.body = some (Go.Vx.bodyOf Try.f74) by kernel_rfl) (by kernel_rfl) (by kernel_rfl) (plexusref01_Prime.fns_good k) plexusref01_Prime.lay_good (by
  intro x r h
  have h : plexusref01_Prime.m k x = some r := h
  rw [plexusref01_Prime.m_hid] at h
  exact h)
end Go.Proofs.Ytokaigninenjhaa.V22
