/- Functions as the abstract executor tells them: equations, and contracts; printed by a tool. -/
import Derived.Test.YtokaigninenjhaaX24Z
import Derived.Test.YtokaigninenjhaaX24R
namespace Go.Proofs.Ytokaigninenjhaa.V22
open Go Go.Vx Go.Proofs
set_option linter.unusedVariables false
set_option maxRecDepth 100000
noncomputable def plexuslaw24_ExcludeComplements.s0 : Go.Vx.Spec := ⟨[some 4, none], (.pair (K.pair (K.int IntKind.u8) (K.pair (K.int IntKind.u8) (K.pair (K.int IntKind.u8) (K.int IntKind.u8)))) (K.int IntKind.u8)), [.im (K.bool)], .one (none), false, fun _ => none⟩
noncomputable def plexuslaw24_ExcludeComplements.fns (k : Nat) : Go.Vx.Fns := [(9, plexuslaw24_examples.sp k), (10, plexusref24_Near.sp k), (23, plexuslaw24_par.sp k), (12, exclude_Right.sp k), (24, plexusref24_Symmetric.sp k), (17, exclude_Check.sp k), (14, plexuslaw24_why.sp k)]
theorem plexuslaw24_ExcludeComplements.fns_good (k : Nat) : (plexuslaw24_ExcludeComplements.fns k).good Try.prog := (Go.Vx.Fns.good_cons (plexuslaw24_examples.good k) (Go.Vx.Fns.good_cons (plexusref24_Near.good k) (Go.Vx.Fns.good_cons (plexuslaw24_par.good k) (Go.Vx.Fns.good_cons (exclude_Right.good k) (Go.Vx.Fns.good_cons (plexusref24_Symmetric.good k) (Go.Vx.Fns.good_cons (exclude_Check.good k) (Go.Vx.Fns.good_cons (plexuslaw24_why.good k) Go.Vx.Fns.good_nil)))))))
def plexuslaw24_ExcludeComplements.ann : List (Nat × Ann) := []
noncomputable def plexuslaw24_ExcludeComplements.lay : Lay := .nil
theorem plexuslaw24_ExcludeComplements.lay_good : plexuslaw24_ExcludeComplements.lay.good Try.prog := True.intro
noncomputable def plexuslaw24_ExcludeComplements.pl : Pl := ⟨0, plexuslaw24_ExcludeComplements.lay, plexuslaw24_ExcludeComplements.ann, (Go.Vx.bodyOf Try.f5)⟩
noncomputable def plexuslaw24_ExcludeComplements.m0 (k : Nat) (a0 : Int × Int × Int × Int) (a1 : Int) : Option (Bool) :=
  execFI Try.prog (plexuslaw24_ExcludeComplements.fns k) plexuslaw24_ExcludeComplements.lay plexuslaw24_ExcludeComplements.ann k (plexuslaw24_ExcludeComplements.s0) 80 Try.f5.results.toList (Go.Vx.bodyOf Try.f5) (a0, a1)
noncomputable def plexuslaw24_ExcludeComplements.m : (Nat) → (Int × Int × Int × Int) → (Int) → Option (Bool) := hide plexuslaw24_ExcludeComplements.m0
theorem plexuslaw24_ExcludeComplements.m_hid : plexuslaw24_ExcludeComplements.m = plexuslaw24_ExcludeComplements.m0 := hide_eq _
theorem plexuslaw24_ExcludeComplements.m_eq (k : Nat) (a0 : Int × Int × Int × Int) (a1 : Int) : plexuslaw24_ExcludeComplements.m k a0 a1 = (Option.bind (plexuslaw24_examples.m k) fun (r3 : Bool) => (if (!r3) = true then some (false) else (Option.bind (plexusref24_Near.m k (a0.fst, a0.snd.fst, a0.snd.snd.fst, a0.snd.snd.snd)) fun (r11 : Int × Int × Int × Int) => (Option.bind (plexuslaw24_par.m k r11.snd.fst (IntKind.wrap IntKind.i64 (r11.snd.fst - r11.snd.snd.fst)) (IntKind.wrap IntKind.i64 (IntKind.wrap IntKind.i64 (r11.snd.fst - IntKind.wrap IntKind.i64 (2 * r11.snd.snd.fst)) + r11.snd.snd.snd))) fun (r31 : Int × Int × Int × Int) => (Option.bind (exclude_Right.m k (r11.fst, r11.snd.fst, r11.snd.snd.fst, r11.snd.snd.snd)) fun (r36 : Int) => (if (r36 != 0) = true then some (r3) else (Option.bind (exclude_Right.m k (r31.fst, r31.snd.fst, r31.snd.snd.fst, r31.snd.snd.snd)) fun (r62 : Int) => (if (r62 != 0) = true then some (r3) else (Option.bind (plexusref24_Symmetric.m k (r11.fst, r11.snd.fst, r11.snd.snd.fst, r11.snd.snd.snd)) fun (r82 : Bool) => (if (!r82) = true then some (r3) else (Option.bind (exclude_Check.m k (r11.fst, r11.snd.fst, r11.snd.snd.fst, r11.snd.snd.snd) (3, 0, 0)) fun (r101 : Int) => (Option.bind (exclude_Check.m k (r31.fst, r31.snd.fst, r31.snd.snd.fst, r31.snd.snd.snd) (3, 0, 0)) fun (r105 : Int) => (if (r101 == r105) = true then (Option.bind (exclude_Check.m k (r11.fst, r11.snd.fst, r11.snd.snd.fst, r11.snd.snd.snd) (4, 0, IntKind.wrap IntKind.i64 a1)) fun (r111 : Int) => (Option.bind (exclude_Check.m k (r31.fst, r31.snd.fst, r31.snd.snd.fst, r31.snd.snd.snd) (4, 0, IntKind.wrap IntKind.i64 a1)) fun (r115 : Int) => (if (r111 == r115) = true then (Option.bind (plexuslaw24_why.m k (r11.fst, r11.snd.fst, r11.snd.snd.fst, r11.snd.snd.snd)) fun (r122 : (Int × Int × Int) × Int) => (Option.bind (plexuslaw24_why.m k (r31.fst, r31.snd.fst, r31.snd.snd.fst, r31.snd.snd.snd)) fun (r127 : (Int × Int × Int) × Int) => (if ((r122.snd == 0) == (r127.snd == 0)) = true then some (r3) else some (false)))) else some (false)))) else some (false)))))))))))))) := by
  rw [plexuslaw24_ExcludeComplements.m_hid]
  kernel_rfl
noncomputable def plexuslaw24_ExcludeComplements.sp (k : Nat) : Go.Vx.Spec := plexuslaw24_ExcludeComplements.s0.runs fun (x : plexuslaw24_ExcludeComplements.s0.argK.T) => plexuslaw24_ExcludeComplements.m k x.1 x.2
theorem plexuslaw24_ExcludeComplements.good (k : Nat) : Go.Vx.Good Try.prog 5 (plexuslaw24_ExcludeComplements.sp k) := Go.Vx.good_runsI Try.func5 (show Try.f5.body = some (Go.Vx.bodyOf Try.f5) by kernel_rfl) (by kernel_rfl) (by kernel_rfl) (plexuslaw24_ExcludeComplements.fns_good k) plexuslaw24_ExcludeComplements.lay_good (by
  intro x r h
  have h : plexuslaw24_ExcludeComplements.m k x.1 x.2 = some r := h
  rw [plexuslaw24_ExcludeComplements.m_hid] at h
  exact h)
end Go.Proofs.Ytokaigninenjhaa.V22
