/- Functions as the abstract executor tells them: equations, and contracts; printed by a tool. -/
import Derived.Test.YtokaigninenjhaaX22P
namespace Go.Proofs.Ytokaigninenjhaa.V22
open Go Go.Vx Go.Proofs
set_option linter.unusedVariables false
set_option maxRecDepth 100000
noncomputable def plexusref22_Mod.s0 : Go.Vx.Spec := ⟨[none, none], (.pair (K.int IntKind.i64) (K.int IntKind.i64)), [.im (K.int IntKind.i64)], .one (none), false, fun _ => none⟩
noncomputable def plexusref22_Mod.fns (k : Nat) : Go.Vx.Fns := []
theorem plexusref22_Mod.fns_good (k : Nat) : (plexusref22_Mod.fns k).good Try.prog := Go.Vx.Fns.good_nil
def plexusref22_Mod.ann : List (Nat × Ann) := []
noncomputable def plexusref22_Mod.lay : Lay := .nil
theorem plexusref22_Mod.lay_good : plexusref22_Mod.lay.good Try.prog := True.intro
noncomputable def plexusref22_Mod.pl : Pl := ⟨0, plexusref22_Mod.lay, plexusref22_Mod.ann, (Go.Vx.bodyOf Try.f72)⟩
noncomputable def plexusref22_Mod.m0 (k : Nat) (a0 : Int) (a1 : Int) : Option (Int) :=
  execFI Try.prog (plexusref22_Mod.fns k) plexusref22_Mod.lay plexusref22_Mod.ann k (plexusref22_Mod.s0) 12 Try.f72.results.toList (Go.Vx.bodyOf Try.f72) (a0, a1)
noncomputable def plexusref22_Mod.m : (Nat) → (Int) → (Int) → Option (Int) := hide plexusref22_Mod.m0
theorem plexusref22_Mod.m_hid : plexusref22_Mod.m = plexusref22_Mod.m0 := hide_eq _
theorem plexusref22_Mod.m_eq (k : Nat) (a0 : Int) (a1 : Int) : plexusref22_Mod.m k a0 a1 = (if a1 = 0 then none else (if a1 = 0 then none else some (divF BinOp.rem IntKind.i64 (IntKind.wrap IntKind.i64 (divF BinOp.rem IntKind.i64 a0 a1 + a1)) a1))) := by
  rw [plexusref22_Mod.m_hid]
  kernel_rfl
noncomputable def plexusref22_Mod.sp (k : Nat) : Go.Vx.Spec := plexusref22_Mod.s0.runs fun (x : plexusref22_Mod.s0.argK.T) => plexusref22_Mod.m k x.1 x.2
theorem plexusref22_Mod.good (k : Nat) : Go.Vx.Good Try.prog 72 (plexusref22_Mod.sp k) := Go.Vx.good_runsI Try.func72 (show Try.f72.body = some (Go.Vx.bodyOf Try.f72) by kernel_rfl) (by kernel_rfl) (by kernel_rfl) (plexusref22_Mod.fns_good k) plexusref22_Mod.lay_good (by
  intro x r h
  have h : plexusref22_Mod.m k x.1 x.2 = some r := h
  rw [plexusref22_Mod.m_hid] at h
  exact h)
noncomputable def plexusref22_Legendre.s0 : Go.Vx.Spec := ⟨[none, none], (.pair (K.int IntKind.i64) (K.int IntKind.i64)), [.im (K.int IntKind.i64), .im (K.int IntKind.i64)], .tup [none, none], false, fun _ => none⟩
noncomputable def plexusref22_Legendre.fns (k : Nat) : Go.Vx.Fns := [(74, plexusref01_Prime.sp k), (72, plexusref22_Mod.sp k)]
theorem plexusref22_Legendre.fns_good (k : Nat) : (plexusref22_Legendre.fns k).good Try.prog := (Go.Vx.Fns.good_cons (plexusref01_Prime.good k) (Go.Vx.Fns.good_cons (plexusref22_Mod.good k) Go.Vx.Fns.good_nil))
def plexusref22_Legendre.ann : List (Nat × Ann) := [(1000006, ⟨rg [(2, 4), (7, 29)], []⟩)]
noncomputable def plexusref22_Legendre.lay : Lay := .nil
theorem plexusref22_Legendre.lay_good : plexusref22_Legendre.lay.good Try.prog := True.intro
noncomputable def plexusref22_Legendre.pl : Pl := ⟨0, plexusref22_Legendre.lay, plexusref22_Legendre.ann, (Go.Vx.bodyOf Try.f73)⟩
noncomputable def plexusref22_Legendre.l0 (n_ k : Nat)  (a0 : Int) (a1 : Int) (v2 : Int) : Option (Int × Int) :=
  loopK n_ (execP Try.prog (plexusref22_Legendre.fns k) k (plC [1, 1, 1, 0, 1, 0, 0] plexusref22_Legendre.pl)) (nmP (plC [1, 1, 1, 0, 1, 0, 0] plexusref22_Legendre.pl)) ({ tmps := [AV.val (Value.int IntKind.i64 a0), AV.val (Value.int IntKind.i64 a1)] ++ dz 4 ++ [AV.val (Value.int IntKind.i64 v2)] ++ dz 29, ents := [], nx := 0 }) (contP Try.prog (plexusref22_Legendre.fns k) k [1, 1, 1, 0, 1, 0] [] plexusref22_Legendre.pl (finK Try.prog (plexusref22_Legendre.s0) Try.f73.results.toList))
theorem plexusref22_Legendre.l0_succ (n0 k : Nat)  (a0 : Int) (a1 : Int) (v2 : Int) : plexusref22_Legendre.l0 (n0 + 1) k  a0 a1 (v2) = (if (decide (v2 < a1)) = true then (if a1 = 0 then none else (Option.bind (plexusref22_Mod.m k a0 a1) fun (r113 : Int) => (if (divF BinOp.rem IntKind.i64 (IntKind.wrap IntKind.i64 (v2 * v2)) a1 == r113) = true then some ((1, 0)) else (plexusref22_Legendre.l0 n0 k  a0 a1 (IntKind.wrap IntKind.i64 (v2 + 1)))))) else some ((-1, 0))) := by kernel_rfl
noncomputable def plexusref22_Legendre.m0 (k : Nat) (a0 : Int) (a1 : Int) : Option (Int × Int) :=
  execFI Try.prog (plexusref22_Legendre.fns k) plexusref22_Legendre.lay plexusref22_Legendre.ann k (plexusref22_Legendre.s0) 36 Try.f73.results.toList (Go.Vx.bodyOf Try.f73) (a0, a1)
noncomputable def plexusref22_Legendre.m : (Nat) → (Int) → (Int) → Option (Int × Int) := hide plexusref22_Legendre.m0
theorem plexusref22_Legendre.m_hid : plexusref22_Legendre.m = plexusref22_Legendre.m0 := hide_eq _
theorem plexusref22_Legendre.m_eq (k : Nat) (a0 : Int) (a1 : Int) : plexusref22_Legendre.m k a0 a1 = (if decide (a1 < 3) = true then some ((0, 1)) else (if decide (a1 > 1000) = true then some ((0, 1)) else (Option.bind (plexusref01_Prime.m k a1) fun (r43 : Bool) => (if (!r43) = true then some ((0, 1)) else (Option.bind (plexusref22_Mod.m k a0 a1) fun (r54 : Int) => (if (r54 == 0) = true then some ((0, 0)) else (plexusref22_Legendre.l0 k k  a0 a1 (1)))))))) := by
  rw [plexusref22_Legendre.m_hid]
  kernel_rfl
noncomputable def plexusref22_Legendre.sp (k : Nat) : Go.Vx.Spec := plexusref22_Legendre.s0.runs fun (x : plexusref22_Legendre.s0.argK.T) => plexusref22_Legendre.m k x.1 x.2
theorem plexusref22_Legendre.good (k : Nat) : Go.Vx.Good Try.prog 73 (plexusref22_Legendre.sp k) := Go.Vx.good_runsI Try.func73 (show Try.f73.body = some (Go.Vx.bodyOf Try.f73) by kernel_rfl) (by kernel_rfl) (by kernel_rfl) (plexusref22_Legendre.fns_good k) plexusref22_Legendre.lay_good (by
  intro x r h
  have h : plexusref22_Legendre.m k x.1 x.2 = some r := h
  rw [plexusref22_Legendre.m_hid] at h
  exact h)
noncomputable def plexusref22_Root.s0 : Go.Vx.Spec := ⟨[none], (K.int IntKind.i64), [.im (K.int IntKind.i64)], .one (none), false, fun _ => none⟩
noncomputable def plexusref22_Root.fns (k : Nat) : Go.Vx.Fns := []
theorem plexusref22_Root.fns_good (k : Nat) : (plexusref22_Root.fns k).good Try.prog := Go.Vx.Fns.good_nil
def plexusref22_Root.ann : List (Nat × Ann) := [(1000002, ⟨rg [(1, 2), (5, 17)], []⟩)]
noncomputable def plexusref22_Root.lay : Lay := .nil
theorem plexusref22_Root.lay_good : plexusref22_Root.lay.good Try.prog := True.intro
noncomputable def plexusref22_Root.pl : Pl := ⟨0, plexusref22_Root.lay, plexusref22_Root.ann, (Go.Vx.bodyOf Try.f67)⟩
noncomputable def plexusref22_Root.l0 (n_ k : Nat)  (a0 : Int) (v1 : Int) (v2 : Int) : Option (Int) :=
  loopK n_ (execP Try.prog (plexusref22_Root.fns k) k (plC [1, 1, 0, 0, 0] plexusref22_Root.pl)) (nmP (plC [1, 1, 0, 0, 0] plexusref22_Root.pl)) ({ tmps := [AV.val (Value.int IntKind.i64 a0)] ++ dz 2 ++ [AV.val (Value.int IntKind.i64 v1), AV.val (Value.int IntKind.i64 v2)] ++ dz 17, ents := [], nx := 0 }) (contP Try.prog (plexusref22_Root.fns k) k [1, 1, 0, 0] [] plexusref22_Root.pl (finK Try.prog (plexusref22_Root.s0) Try.f67.results.toList))
theorem plexusref22_Root.l0_succ (n0 k : Nat)  (a0 : Int) (v1 : Int) (v2 : Int) : plexusref22_Root.l0 (n0 + 1) k  a0 (v1) (v2) = (if (decide (IntKind.wrap IntKind.i64 (v2 - v1) > 1)) = true then (if divF BinOp.quo IntKind.i64 (IntKind.wrap IntKind.i64 (v1 + v2)) 2 = 0 then none else (if (decide (divF BinOp.quo IntKind.i64 (IntKind.wrap IntKind.i64 (v1 + v2)) 2 ≤ divF BinOp.quo IntKind.i64 a0 (divF BinOp.quo IntKind.i64 (IntKind.wrap IntKind.i64 (v1 + v2)) 2))) = true then (plexusref22_Root.l0 n0 k  a0 (divF BinOp.quo IntKind.i64 (IntKind.wrap IntKind.i64 (v1 + v2)) 2) (v2)) else (plexusref22_Root.l0 n0 k  a0 (v1) (divF BinOp.quo IntKind.i64 (IntKind.wrap IntKind.i64 (v1 + v2)) 2)))) else some (v1)) := by kernel_rfl
noncomputable def plexusref22_Root.m0 (k : Nat) (a0 : Int) : Option (Int) :=
  execFI Try.prog (plexusref22_Root.fns k) plexusref22_Root.lay plexusref22_Root.ann k (plexusref22_Root.s0) 22 Try.f67.results.toList (Go.Vx.bodyOf Try.f67) a0
noncomputable def plexusref22_Root.m : (Nat) → (Int) → Option (Int) := hide plexusref22_Root.m0
theorem plexusref22_Root.m_hid : plexusref22_Root.m = plexusref22_Root.m0 := hide_eq _
theorem plexusref22_Root.m_eq (k : Nat) (a0 : Int) : plexusref22_Root.m k a0 = (plexusref22_Root.l0 k k  a0 (0) (3037000500)) := by
  rw [plexusref22_Root.m_hid]
  kernel_rfl
noncomputable def plexusref22_Root.sp (k : Nat) : Go.Vx.Spec := plexusref22_Root.s0.runs fun (x : plexusref22_Root.s0.argK.T) => plexusref22_Root.m k x
theorem plexusref22_Root.good (k : Nat) : Go.Vx.Good Try.prog 67 (plexusref22_Root.sp k) := Go.Vx.good_runsI Try.func67 (show Try.f67.body = some (Go.Vx.bodyOf Try.f67) by kernel_rfl) (by kernel_rfl) (by kernel_rfl) (plexusref22_Root.fns_good k) plexusref22_Root.lay_good (by
  intro x r h
  have h : plexusref22_Root.m k x = some r := h
  rw [plexusref22_Root.m_hid] at h
  exact h)
noncomputable def plexusref22_Square.s0 : Go.Vx.Spec := ⟨[none], (K.int IntKind.i64), [.im (K.bool)], .one (none), false, fun _ => none⟩
noncomputable def plexusref22_Square.fns (k : Nat) : Go.Vx.Fns := [(67, plexusref22_Root.sp k)]
theorem plexusref22_Square.fns_good (k : Nat) : (plexusref22_Square.fns k).good Try.prog := (Go.Vx.Fns.good_cons (plexusref22_Root.good k) Go.Vx.Fns.good_nil)
def plexusref22_Square.ann : List (Nat × Ann) := []
noncomputable def plexusref22_Square.lay : Lay := .nil
theorem plexusref22_Square.lay_good : plexusref22_Square.lay.good Try.prog := True.intro
noncomputable def plexusref22_Square.pl : Pl := ⟨0, plexusref22_Square.lay, plexusref22_Square.ann, (Go.Vx.bodyOf Try.f34)⟩
noncomputable def plexusref22_Square.m0 (k : Nat) (a0 : Int) : Option (Bool) :=
  execFI Try.prog (plexusref22_Square.fns k) plexusref22_Square.lay plexusref22_Square.ann k (plexusref22_Square.s0) 14 Try.f34.results.toList (Go.Vx.bodyOf Try.f34) a0
noncomputable def plexusref22_Square.m : (Nat) → (Int) → Option (Bool) := hide plexusref22_Square.m0
theorem plexusref22_Square.m_hid : plexusref22_Square.m = plexusref22_Square.m0 := hide_eq _
theorem plexusref22_Square.m_eq (k : Nat) (a0 : Int) : plexusref22_Square.m k a0 = (if decide (a0 ≥ 0) = true then (Option.bind (plexusref22_Root.m k a0) fun (r8 : Int) => (Option.bind (plexusref22_Root.m k a0) fun (r13 : Int) => some (IntKind.wrap IntKind.i64 (r8 * r13) == a0))) else some (false)) := by
  rw [plexusref22_Square.m_hid]
  kernel_rfl
noncomputable def plexusref22_Square.sp (k : Nat) : Go.Vx.Spec := plexusref22_Square.s0.runs fun (x : plexusref22_Square.s0.argK.T) => plexusref22_Square.m k x
theorem plexusref22_Square.good (k : Nat) : Go.Vx.Good Try.prog 34 (plexusref22_Square.sp k) := Go.Vx.good_runsI Try.func34 (show Try.f34.body = some (Go.Vx.bodyOf Try.f34) by kernel_rfl) (by kernel_rfl) (by kernel_rfl) (plexusref22_Square.fns_good k) plexusref22_Square.lay_good (by
  intro x r h
  have h : plexusref22_Square.m k x = some r := h
  rw [plexusref22_Square.m_hid] at h
  exact h)
noncomputable def plexusref22_Small.s0 : Go.Vx.Spec := ⟨[none], (K.int IntKind.i64), [.im (K.bool)], .one (none), false, fun _ => none⟩
noncomputable def plexusref22_Small.fns (k : Nat) : Go.Vx.Fns := []
theorem plexusref22_Small.fns_good (k : Nat) : (plexusref22_Small.fns k).good Try.prog := Go.Vx.Fns.good_nil
def plexusref22_Small.ann : List (Nat × Ann) := []
noncomputable def plexusref22_Small.lay : Lay := .nil
theorem plexusref22_Small.lay_good : plexusref22_Small.lay.good Try.prog := True.intro
noncomputable def plexusref22_Small.pl : Pl := ⟨0, plexusref22_Small.lay, plexusref22_Small.ann, (Go.Vx.bodyOf Try.f68)⟩
noncomputable def plexusref22_Small.m0 (k : Nat) (a0 : Int) : Option (Bool) :=
  execFI Try.prog (plexusref22_Small.fns k) plexusref22_Small.lay plexusref22_Small.ann k (plexusref22_Small.s0) 13 Try.f68.results.toList (Go.Vx.bodyOf Try.f68) a0
noncomputable def plexusref22_Small.m : (Nat) → (Int) → Option (Bool) := hide plexusref22_Small.m0
theorem plexusref22_Small.m_hid : plexusref22_Small.m = plexusref22_Small.m0 := hide_eq _
theorem plexusref22_Small.m_eq (k : Nat) (a0 : Int) : plexusref22_Small.m k a0 = (if (a0 != 0) = true then (if decide (a0 ≥ -200) = true then some (decide (a0 ≤ 200)) else some (false)) else some (false)) := by
  rw [plexusref22_Small.m_hid]
  kernel_rfl
noncomputable def plexusref22_Small.sp (k : Nat) : Go.Vx.Spec := plexusref22_Small.s0.runs fun (x : plexusref22_Small.s0.argK.T) => plexusref22_Small.m k x
theorem plexusref22_Small.good (k : Nat) : Go.Vx.Good Try.prog 68 (plexusref22_Small.sp k) := Go.Vx.good_runsI Try.func68 (show Try.f68.body = some (Go.Vx.bodyOf Try.f68) by kernel_rfl) (by kernel_rfl) (by kernel_rfl) (plexusref22_Small.fns_good k) plexusref22_Small.lay_good (by
  intro x r h
  have h : plexusref22_Small.m k x = some r := h
  rw [plexusref22_Small.m_hid] at h
  exact h)
noncomputable def plexusref22_Place.s0 : Go.Vx.Spec := ⟨[none], (K.int IntKind.i64), [.im (K.bool)], .one (none), false, fun _ => none⟩
noncomputable def plexusref22_Place.fns (k : Nat) : Go.Vx.Fns := [(74, plexusref01_Prime.sp k)]
theorem plexusref22_Place.fns_good (k : Nat) : (plexusref22_Place.fns k).good Try.prog := (Go.Vx.Fns.good_cons (plexusref01_Prime.good k) Go.Vx.Fns.good_nil)
def plexusref22_Place.ann : List (Nat × Ann) := []
noncomputable def plexusref22_Place.lay : Lay := .nil
theorem plexusref22_Place.lay_good : plexusref22_Place.lay.good Try.prog := True.intro
noncomputable def plexusref22_Place.pl : Pl := ⟨0, plexusref22_Place.lay, plexusref22_Place.ann, (Go.Vx.bodyOf Try.f38)⟩
noncomputable def plexusref22_Place.m0 (k : Nat) (a0 : Int) : Option (Bool) :=
  execFI Try.prog (plexusref22_Place.fns k) plexusref22_Place.lay plexusref22_Place.ann k (plexusref22_Place.s0) 13 Try.f38.results.toList (Go.Vx.bodyOf Try.f38) a0
noncomputable def plexusref22_Place.m : (Nat) → (Int) → Option (Bool) := hide plexusref22_Place.m0
theorem plexusref22_Place.m_hid : plexusref22_Place.m = plexusref22_Place.m0 := hide_eq _
theorem plexusref22_Place.m_eq (k : Nat) (a0 : Int) : plexusref22_Place.m k a0 = (if (a0 == 0) = true then some (true) else (if decide (a0 ≤ 1000) = true then (Option.bind (plexusref01_Prime.m k a0) fun (r27 : Bool) => some (r27)) else some (false))) := by
  rw [plexusref22_Place.m_hid]
  kernel_rfl
noncomputable def plexusref22_Place.sp (k : Nat) : Go.Vx.Spec := plexusref22_Place.s0.runs fun (x : plexusref22_Place.s0.argK.T) => plexusref22_Place.m k x
theorem plexusref22_Place.good (k : Nat) : Go.Vx.Good Try.prog 38 (plexusref22_Place.sp k) := Go.Vx.good_runsI Try.func38 (show Try.f38.body = some (Go.Vx.bodyOf Try.f38) by kernel_rfl) (by kernel_rfl) (by kernel_rfl) (plexusref22_Place.fns_good k) plexusref22_Place.lay_good (by
  intro x r h
  have h : plexusref22_Place.m k x = some r := h
  rw [plexusref22_Place.m_hid] at h
  exact h)
noncomputable def plexusref22_flag.s0 : Go.Vx.Spec := ⟨[none], (K.bool), [.im (K.int IntKind.i64)], .one (none), false, fun _ => none⟩
noncomputable def plexusref22_flag.fns (k : Nat) : Go.Vx.Fns := []
theorem plexusref22_flag.fns_good (k : Nat) : (plexusref22_flag.fns k).good Try.prog := Go.Vx.Fns.good_nil
def plexusref22_flag.ann : List (Nat × Ann) := []
noncomputable def plexusref22_flag.lay : Lay := .nil
theorem plexusref22_flag.lay_good : plexusref22_flag.lay.good Try.prog := True.intro
noncomputable def plexusref22_flag.pl : Pl := ⟨0, plexusref22_flag.lay, plexusref22_flag.ann, (Go.Vx.bodyOf Try.f70)⟩
noncomputable def plexusref22_flag.m0 (k : Nat) (a0 : Bool) : Option (Int) :=
  execFI Try.prog (plexusref22_flag.fns k) plexusref22_flag.lay plexusref22_flag.ann k (plexusref22_flag.s0) 4 Try.f70.results.toList (Go.Vx.bodyOf Try.f70) a0
noncomputable def plexusref22_flag.m : (Nat) → (Bool) → Option (Int) := hide plexusref22_flag.m0
theorem plexusref22_flag.m_hid : plexusref22_flag.m = plexusref22_flag.m0 := hide_eq _
theorem plexusref22_flag.m_eq (k : Nat) (a0 : Bool) : plexusref22_flag.m k a0 = (if (a0) = true then some (1) else some (0)) := by
  rw [plexusref22_flag.m_hid]
  kernel_rfl
noncomputable def plexusref22_flag.sp (k : Nat) : Go.Vx.Spec := plexusref22_flag.s0.runs fun (x : plexusref22_flag.s0.argK.T) => plexusref22_flag.m k x
theorem plexusref22_flag.good (k : Nat) : Go.Vx.Good Try.prog 70 (plexusref22_flag.sp k) := Go.Vx.good_runsI Try.func70 (show Try.f70.body = some (Go.Vx.bodyOf Try.f70) by kernel_rfl) (by kernel_rfl) (by kernel_rfl) (plexusref22_flag.fns_good k) plexusref22_flag.lay_good (by
  intro x r h
  have h : plexusref22_flag.m k x = some r := h
  rw [plexusref22_flag.m_hid] at h
  exact h)
noncomputable def plexusref22_power.s0 : Go.Vx.Spec := ⟨[none, none], (.pair (K.int IntKind.i64) (K.int IntKind.i64)), [.im (K.int IntKind.i64)], .one (none), false, fun _ => none⟩
noncomputable def plexusref22_power.fns (k : Nat) : Go.Vx.Fns := []
theorem plexusref22_power.fns_good (k : Nat) : (plexusref22_power.fns k).good Try.prog := Go.Vx.Fns.good_nil
def plexusref22_power.ann : List (Nat × Ann) := []
noncomputable def plexusref22_power.lay : Lay := .nil
theorem plexusref22_power.lay_good : plexusref22_power.lay.good Try.prog := True.intro
noncomputable def plexusref22_power.pl : Pl := ⟨0, plexusref22_power.lay, plexusref22_power.ann, (Go.Vx.bodyOf Try.f69)⟩
noncomputable def plexusref22_power.m0 (k : Nat) (a0 : Int) (a1 : Int) : Option (Int) :=
  execFI Try.prog (plexusref22_power.fns k) plexusref22_power.lay plexusref22_power.ann k (plexusref22_power.s0) 9 Try.f69.results.toList (Go.Vx.bodyOf Try.f69) (a0, a1)
noncomputable def plexusref22_power.m : (Nat) → (Int) → (Int) → Option (Int) := hide plexusref22_power.m0
theorem plexusref22_power.m_hid : plexusref22_power.m = plexusref22_power.m0 := hide_eq _
theorem plexusref22_power.m_eq (k : Nat) (a0 : Int) (a1 : Int) : plexusref22_power.m k a0 a1 = (if (divF BinOp.rem IntKind.i64 a1 2 == 0) = true then some (1) else some (a0)) := by
  rw [plexusref22_power.m_hid]
  kernel_rfl
noncomputable def plexusref22_power.sp (k : Nat) : Go.Vx.Spec := plexusref22_power.s0.runs fun (x : plexusref22_power.s0.argK.T) => plexusref22_power.m k x.1 x.2
theorem plexusref22_power.good (k : Nat) : Go.Vx.Good Try.prog 69 (plexusref22_power.sp k) := Go.Vx.good_runsI Try.func69 (show Try.f69.body = some (Go.Vx.bodyOf Try.f69) by kernel_rfl) (by kernel_rfl) (by kernel_rfl) (plexusref22_power.fns_good k) plexusref22_power.lay_good (by
  intro x r h
  have h : plexusref22_power.m k x.1 x.2 = some r := h
  rw [plexusref22_power.m_hid] at h
  exact h)
noncomputable def plexusref22_split.s0 : Go.Vx.Spec := ⟨[none, none], (.pair (K.int IntKind.i64) (K.int IntKind.i64)), [.im (K.pair (K.int IntKind.i64) (K.int IntKind.i64))], .one (some 2), false, fun _ => none⟩
noncomputable def plexusref22_split.fns (k : Nat) : Go.Vx.Fns := []
theorem plexusref22_split.fns_good (k : Nat) : (plexusref22_split.fns k).good Try.prog := Go.Vx.Fns.good_nil
def plexusref22_split.ann : List (Nat × Ann) := [(1000002, ⟨rg [(0, 1), (2, 2), (6, 17)], []⟩)]
noncomputable def plexusref22_split.lay : Lay := .nil
theorem plexusref22_split.lay_good : plexusref22_split.lay.good Try.prog := True.intro
noncomputable def plexusref22_split.pl : Pl := ⟨0, plexusref22_split.lay, plexusref22_split.ann, (Go.Vx.bodyOf Try.f71)⟩
noncomputable def plexusref22_split.l0 (n_ k : Nat)  (a1 : Int) (v3 : Int) (v4 : Int) : Option (Int × Int) :=
  loopK n_ (execP Try.prog (plexusref22_split.fns k) k (plC [1, 1, 0, 0, 0] plexusref22_split.pl)) (nmP (plC [1, 1, 0, 0, 0] plexusref22_split.pl)) ({ tmps := [AV.dead, AV.val (Value.int IntKind.i64 a1)] ++ dz 2 ++ [AV.ptr 0 0, AV.ptr 1 0] ++ dz 17, ents := [(0, Ent.box 105 [AV.val (Value.int IntKind.i64 0), AV.val (Value.int IntKind.i64 0)]), (1, Ent.box 105 [AV.val (Value.int IntKind.i64 v3), AV.val (Value.int IntKind.i64 v4)])], nx := 2 }) (contP Try.prog (plexusref22_split.fns k) k [1, 1, 0, 0] [] plexusref22_split.pl (finK Try.prog (plexusref22_split.s0) Try.f71.results.toList))
theorem plexusref22_split.l0_succ (n0 k : Nat)  (a1 : Int) (v3 : Int) (v4 : Int) : plexusref22_split.l0 (n0 + 1) k  a1 (v3) (v4) = (if a1 = 0 then none else (if (divF BinOp.rem IntKind.i64 v4 a1 == 0) = true then (if a1 = 0 then none else (plexusref22_split.l0 n0 k  a1 (IntKind.wrap IntKind.i64 (v3 + 1)) (divF BinOp.quo IntKind.i64 v4 a1))) else some ((v3, v4)))) := by kernel_rfl
noncomputable def plexusref22_split.m0 (k : Nat) (a0 : Int) (a1 : Int) : Option (Int × Int) :=
  execFI Try.prog (plexusref22_split.fns k) plexusref22_split.lay plexusref22_split.ann k (plexusref22_split.s0) 23 Try.f71.results.toList (Go.Vx.bodyOf Try.f71) (a0, a1)
noncomputable def plexusref22_split.m : (Nat) → (Int) → (Int) → Option (Int × Int) := hide plexusref22_split.m0
theorem plexusref22_split.m_hid : plexusref22_split.m = plexusref22_split.m0 := hide_eq _
theorem plexusref22_split.m_eq (k : Nat) (a0 : Int) (a1 : Int) : plexusref22_split.m k a0 a1 = (plexusref22_split.l0 k k  a1 (0) (a0)) := by
  rw [plexusref22_split.m_hid]
  kernel_rfl
noncomputable def plexusref22_split.sp (k : Nat) : Go.Vx.Spec := plexusref22_split.s0.runs fun (x : plexusref22_split.s0.argK.T) => plexusref22_split.m k x.1 x.2
theorem plexusref22_split.good (k : Nat) : Go.Vx.Good Try.prog 71 (plexusref22_split.sp k) := Go.Vx.good_runsI Try.func71 (show Try.f71.body = some (Go.Vx.bodyOf Try.f71) by kernel_rfl) (by kernel_rfl) (by kernel_rfl) (plexusref22_split.fns_good k) plexusref22_split.lay_good (by
  intro x r h
  have h : plexusref22_split.m k x.1 x.2 = some r := h
  rw [plexusref22_split.m_hid] at h
  exact h)
noncomputable def plexusref22_Hilbert.s0 : Go.Vx.Spec := ⟨[none, none, none], (.pair (K.int IntKind.i64) (.pair (K.int IntKind.i64) (K.int IntKind.i64))), [.im (K.int IntKind.i64), .im (K.int IntKind.i64)], .tup [none, none], false, fun _ => none⟩
noncomputable def plexusref22_Hilbert.fns (k : Nat) : Go.Vx.Fns := [(68, plexusref22_Small.sp k), (38, plexusref22_Place.sp k), (70, plexusref22_flag.sp k), (69, plexusref22_power.sp k), (71, plexusref22_split.sp k), (72, plexusref22_Mod.sp k), (73, plexusref22_Legendre.sp k)]
theorem plexusref22_Hilbert.fns_good (k : Nat) : (plexusref22_Hilbert.fns k).good Try.prog := (Go.Vx.Fns.good_cons (plexusref22_Small.good k) (Go.Vx.Fns.good_cons (plexusref22_Place.good k) (Go.Vx.Fns.good_cons (plexusref22_flag.good k) (Go.Vx.Fns.good_cons (plexusref22_power.good k) (Go.Vx.Fns.good_cons (plexusref22_split.good k) (Go.Vx.Fns.good_cons (plexusref22_Mod.good k) (Go.Vx.Fns.good_cons (plexusref22_Legendre.good k) Go.Vx.Fns.good_nil)))))))
def plexusref22_Hilbert.ann : List (Nat × Ann) := [(2000013, ⟨rg [(0, 2), (3, 5), (10, 2), (13, 113)], []⟩)]
noncomputable def plexusref22_Hilbert.lay : Lay := .nil
theorem plexusref22_Hilbert.lay_good : plexusref22_Hilbert.lay.good Try.prog := True.intro
noncomputable def plexusref22_Hilbert.pl : Pl := ⟨0, plexusref22_Hilbert.lay, plexusref22_Hilbert.ann, (Go.Vx.bodyOf Try.f36)⟩
noncomputable def plexusref22_Hilbert.j0 (k : Nat)  (a2 : Int) (r91 : Int × Int) (r95 : Int × Int) (v1 : Int) : Option (Int × Int) :=
  joinK (fun s_ => execP Try.prog (plexusref22_Hilbert.fns k) k (plC [1, 1, 1, 1, 1, 1, 1] plexusref22_Hilbert.pl) s_ (contP Try.prog (plexusref22_Hilbert.fns k) k [1, 1, 1, 1, 1, 1, 1] [] plexusref22_Hilbert.pl (finK Try.prog (plexusref22_Hilbert.s0) Try.f36.results.toList))) ({ tmps := dz 2 ++ [AV.val (Value.int IntKind.i64 a2)] ++ dz 5 ++ [AV.ptr 0 0, AV.ptr 1 0] ++ dz 2 ++ [AV.val (Value.int IntKind.i64 v1)] ++ dz 113, ents := [(0, Ent.box 105 [AV.val (Value.int IntKind.i64 r91.fst), AV.val (Value.int IntKind.i64 r91.snd)]), (1, Ent.box 105 [AV.val (Value.int IntKind.i64 r95.fst), AV.val (Value.int IntKind.i64 r95.snd)])], nx := 2 })
theorem plexusref22_Hilbert.j0_eq (k : Nat)  (a2 : Int) (r91 : Int × Int) (r95 : Int × Int) (v1 : Int) : plexusref22_Hilbert.j0 k  a2 r91 r95 (v1) = (Option.bind (plexusref22_Legendre.m k r91.snd a2) fun (r237 : Int × Int) => (Option.bind (plexusref22_Legendre.m k r95.snd a2) fun (r247 : Int × Int) => (Option.bind (plexusref22_power.m k v1 (IntKind.wrap IntKind.i64 (r91.fst * r95.fst))) fun (r260 : Int) => (Option.bind (plexusref22_power.m k r237.fst r95.fst) fun (r265 : Int) => (Option.bind (plexusref22_power.m k r247.fst r91.fst) fun (r271 : Int) => some ((IntKind.wrap IntKind.i64 (IntKind.wrap IntKind.i64 (r260 * r265) * r271), 0))))))) := by
  unfold plexusref22_Hilbert.j0
  rw [joinK_eq]
  kernel_rfl
noncomputable def plexusref22_Hilbert.m0 (k : Nat) (a0 : Int) (a1 : Int) (a2 : Int) : Option (Int × Int) :=
  execFI Try.prog (plexusref22_Hilbert.fns k) plexusref22_Hilbert.lay plexusref22_Hilbert.ann k (plexusref22_Hilbert.s0) 126 Try.f36.results.toList (Go.Vx.bodyOf Try.f36) (a0, a1, a2)
noncomputable def plexusref22_Hilbert.m : (Nat) → (Int) → (Int) → (Int) → Option (Int × Int) := hide plexusref22_Hilbert.m0
theorem plexusref22_Hilbert.m_hid : plexusref22_Hilbert.m = plexusref22_Hilbert.m0 := hide_eq _
theorem plexusref22_Hilbert.m_eq (k : Nat) (a0 : Int) (a1 : Int) (a2 : Int) : plexusref22_Hilbert.m k a0 a1 a2 = (Option.bind (plexusref22_Small.m k a0) fun (r4 : Bool) => (if (!r4) = true then some ((0, 1)) else (Option.bind (plexusref22_Small.m k a1) fun (r30 : Bool) => (if (!r30) = true then some ((0, 1)) else (Option.bind (plexusref22_Place.m k a2) fun (r50 : Bool) => (if (!r50) = true then some ((0, 1)) else (if (a2 == 0) = true then (if decide (a0 < 0) = true then (Option.bind (plexusref22_flag.m k (decide (a1 < 0))) fun (r70 : Int) => (Option.bind (plexusref22_power.m k (-1) r70) fun (r72 : Int) => some ((r72, 0)))) else (Option.bind (plexusref22_flag.m k false) fun (r82 : Int) => (Option.bind (plexusref22_power.m k (-1) r82) fun (r84 : Int) => some ((r84, 0))))) else (Option.bind (plexusref22_split.m k a0 a2) fun (r91 : Int × Int) => (Option.bind (plexusref22_split.m k a1 a2) fun (r95 : Int × Int) => (if (a2 == 2) = true then (Option.bind (plexusref22_Mod.m k r91.snd 4) fun (r105 : Int) => (Option.bind (plexusref22_flag.m k (r105 == 3)) fun (r108 : Int) => (Option.bind (plexusref22_Mod.m k r95.snd 4) fun (r112 : Int) => (Option.bind (plexusref22_flag.m k (r112 == 3)) fun (r115 : Int) => (Option.bind (plexusref22_Mod.m k r95.snd 8) fun (r123 : Int) => (if (r123 == 3) = true then (Option.bind (plexusref22_flag.m k true) fun (r129 : Int) => (Option.bind (plexusref22_Mod.m k r91.snd 8) fun (r136 : Int) => (if (r136 == 3) = true then (Option.bind (plexusref22_flag.m k true) fun (r142 : Int) => (Option.bind (plexusref22_power.m k (-1) (IntKind.wrap IntKind.i64 (IntKind.wrap IntKind.i64 (r108 * r115) + IntKind.wrap IntKind.i64 (IntKind.wrap IntKind.i64 (r91.fst * r129) + IntKind.wrap IntKind.i64 (r95.fst * r142))))) fun (r150 : Int) => some ((r150, 0)))) else (Option.bind (plexusref22_Mod.m k r91.snd 8) fun (r157 : Int) => (Option.bind (plexusref22_flag.m k (r157 == 5)) fun (r162 : Int) => (Option.bind (plexusref22_power.m k (-1) (IntKind.wrap IntKind.i64 (IntKind.wrap IntKind.i64 (r108 * r115) + IntKind.wrap IntKind.i64 (IntKind.wrap IntKind.i64 (r91.fst * r129) + IntKind.wrap IntKind.i64 (r95.fst * r162))))) fun (r170 : Int) => some ((r170, 0)))))))) else (Option.bind (plexusref22_Mod.m k r95.snd 8) fun (r177 : Int) => (Option.bind (plexusref22_flag.m k (r177 == 5)) fun (r182 : Int) => (Option.bind (plexusref22_Mod.m k r91.snd 8) fun (r189 : Int) => (if (r189 == 3) = true then (Option.bind (plexusref22_flag.m k true) fun (r195 : Int) => (Option.bind (plexusref22_power.m k (-1) (IntKind.wrap IntKind.i64 (IntKind.wrap IntKind.i64 (r108 * r115) + IntKind.wrap IntKind.i64 (IntKind.wrap IntKind.i64 (r91.fst * r182) + IntKind.wrap IntKind.i64 (r95.fst * r195))))) fun (r203 : Int) => some ((r203, 0)))) else (Option.bind (plexusref22_Mod.m k r91.snd 8) fun (r210 : Int) => (Option.bind (plexusref22_flag.m k (r210 == 5)) fun (r215 : Int) => (Option.bind (plexusref22_power.m k (-1) (IntKind.wrap IntKind.i64 (IntKind.wrap IntKind.i64 (r108 * r115) + IntKind.wrap IntKind.i64 (IntKind.wrap IntKind.i64 (r91.fst * r182) + IntKind.wrap IntKind.i64 (r95.fst * r215))))) fun (r223 : Int) => some ((r223, 0))))))))))))))) else (if (divF BinOp.rem IntKind.i64 a2 4 == 3) = true then (plexusref22_Hilbert.j0 k  a2 r91 r95 (-1)) else (plexusref22_Hilbert.j0 k  a2 r91 r95 (1))))))))))))) := by
  rw [plexusref22_Hilbert.m_hid]
  kernel_rfl
noncomputable def plexusref22_Hilbert.sp (k : Nat) : Go.Vx.Spec := plexusref22_Hilbert.s0.runs fun (x : plexusref22_Hilbert.s0.argK.T) => plexusref22_Hilbert.m k x.1 x.2.1 x.2.2
theorem plexusref22_Hilbert.good (k : Nat) : Go.Vx.Good Try.prog 36 (plexusref22_Hilbert.sp k) := Go.Vx.good_runsI Try.func36 (show Try.f36.body = some (Go.Vx.bodyOf Try.f36) by kernel_rfl) (by kernel_rfl) (by kernel_rfl) (plexusref22_Hilbert.fns_good k) plexusref22_Hilbert.lay_good (by
  intro x r h
  have h : plexusref22_Hilbert.m k x.1 x.2.1 x.2.2 = some r := h
  rw [plexusref22_Hilbert.m_hid] at h
  exact h)
end Go.Proofs.Ytokaigninenjhaa.V22
