/- Functions as the abstract executor tells them: equations, and contracts; printed by a tool. -/
import Derived.Test.YtokaigninenjhaaX22R
import Derived.Test.YtokaigninenjhaaVsD
namespace Go.Proofs.Ytokaigninenjhaa.V22
open Go Go.Vx Go.Proofs
set_option linter.unusedVariables false
set_option maxRecDepth 100000
noncomputable def plexusref24_Right.s0 : Go.Vx.Spec := ⟨[some 4], (K.pair (K.int IntKind.i64) (K.pair (K.int IntKind.i64) (K.pair (K.int IntKind.i64) (K.int IntKind.i64)))), [.im (K.int IntKind.i64)], .one (none), false, fun _ => none⟩
noncomputable def plexusref24_Right.fns (k : Nat) : Go.Vx.Fns := []
theorem plexusref24_Right.fns_good (k : Nat) : (plexusref24_Right.fns k).good Try.prog := Go.Vx.Fns.good_nil
def plexusref24_Right.ann : List (Nat × Ann) := []
noncomputable def plexusref24_Right.lay : Lay := .nil
theorem plexusref24_Right.lay_good : plexusref24_Right.lay.good Try.prog := True.intro
noncomputable def plexusref24_Right.pl : Pl := ⟨0, plexusref24_Right.lay, plexusref24_Right.ann, (Go.Vx.bodyOf Try.f13)⟩
noncomputable def plexusref24_Right.m0 (k : Nat) (a0 : Int × Int × Int × Int) : Option (Int) :=
  execFI Try.prog (plexusref24_Right.fns k) plexusref24_Right.lay plexusref24_Right.ann k (plexusref24_Right.s0) 33 Try.f13.results.toList (Go.Vx.bodyOf Try.f13) a0
noncomputable def plexusref24_Right.m : (Nat) → (Int × Int × Int × Int) → Option (Int) := hide plexusref24_Right.m0
theorem plexusref24_Right.m_hid : plexusref24_Right.m = plexusref24_Right.m0 := hide_eq _
theorem plexusref24_Right.m_eq (k : Nat) (a0 : Int × Int × Int × Int) : plexusref24_Right.m k a0 = (if (a0.fst != 2) = true then some (1) else (if decide (a0.snd.snd.fst < 2) = true then some (1) else (if decide (a0.snd.snd.fst ≥ a0.snd.fst) = true then some (1) else (if decide (a0.snd.fst > 100) = true then some (1) else (if decide (a0.snd.snd.snd < 1) = true then some (1) else (if (decide (a0.snd.snd.snd > 20)) = true then some (1) else some (0))))))) := by
  rw [plexusref24_Right.m_hid]
  kernel_rfl
noncomputable def plexusref24_Right.sp (k : Nat) : Go.Vx.Spec := plexusref24_Right.s0.runs fun (x : plexusref24_Right.s0.argK.T) => plexusref24_Right.m k x
theorem plexusref24_Right.good (k : Nat) : Go.Vx.Good Try.prog 13 (plexusref24_Right.sp k) := Go.Vx.good_runsI Try.func13 (show Try.f13.body = some (Go.Vx.bodyOf Try.f13) by kernel_rfl) (by kernel_rfl) (by kernel_rfl) (plexusref24_Right.fns_good k) plexusref24_Right.lay_good (by
  intro x r h
  have h : plexusref24_Right.m k x = some r := h
  rw [plexusref24_Right.m_hid] at h
  exact h)
noncomputable def plexusref24_BlocksIn.s0 : Go.Vx.Spec := ⟨[some 4, none], (.pair (K.pair (K.int IntKind.i64) (K.pair (K.int IntKind.i64) (K.pair (K.int IntKind.i64) (K.int IntKind.i64)))) (K.int IntKind.i64)), [.im (K.pair (K.pair (K.int IntKind.i64) (K.int IntKind.i64)) (K.int IntKind.i64))], .one (some 3), false, fun _ => none⟩
noncomputable def plexusref24_BlocksIn.fns (k : Nat) : Go.Vx.Fns := [(13, plexusref24_Right.sp k), (32, cDiv.sp k)]
theorem plexusref24_BlocksIn.fns_good (k : Nat) : (plexusref24_BlocksIn.fns k).good Try.prog := (Go.Vx.Fns.good_cons (plexusref24_Right.good k) (Go.Vx.Fns.good_cons (cDiv.good k) Go.Vx.Fns.good_nil))
def plexusref24_BlocksIn.ann : List (Nat × Ann) := [(2000007, ⟨rg [(0, 4), (7, 43)], []⟩)]
noncomputable def plexusref24_BlocksIn.lay : Lay := .nil
theorem plexusref24_BlocksIn.lay_good : plexusref24_BlocksIn.lay.good Try.prog := True.intro
noncomputable def plexusref24_BlocksIn.pl : Pl := ⟨0, plexusref24_BlocksIn.lay, plexusref24_BlocksIn.ann, (Go.Vx.bodyOf Try.f16)⟩
noncomputable def plexusref24_BlocksIn.j0 (k : Nat)   (v0 : Int) (v1 : Int) : Option ((Int × Int) × Int) :=
  joinK (fun s_ => execP Try.prog (plexusref24_BlocksIn.fns k) k (plC [1, 1, 1, 1] plexusref24_BlocksIn.pl) s_ (contP Try.prog (plexusref24_BlocksIn.fns k) k [1, 1, 1, 1] [] plexusref24_BlocksIn.pl (finK Try.prog (plexusref24_BlocksIn.s0) Try.f16.results.toList))) ({ tmps := dz 4 ++ [AV.ptr 0 0, AV.val (Value.int IntKind.i64 v0), AV.val (Value.int IntKind.i64 v1)] ++ dz 43, ents := [(0, Ent.box 38 [AV.val (Value.int IntKind.i64 0), AV.val (Value.int IntKind.i64 0), AV.val (Value.int IntKind.i64 0)])], nx := 1 })
theorem plexusref24_BlocksIn.j0_eq (k : Nat)   (v0 : Int) (v1 : Int) : plexusref24_BlocksIn.j0 k   (v0) (v1) = (Option.bind (cDiv.r k v0 v1) fun (r72 : Int) => (if r72 = 0 then none else (if r72 = 0 then none else some (((divF BinOp.quo IntKind.i64 v0 r72, divF BinOp.quo IntKind.i64 v1 r72), 0))))) := by
  unfold plexusref24_BlocksIn.j0
  rw [joinK_eq]
  kernel_rfl
noncomputable def plexusref24_BlocksIn.m0 (k : Nat) (a0 : Int × Int × Int × Int) (a1 : Int) : Option ((Int × Int) × Int) :=
  execFI Try.prog (plexusref24_BlocksIn.fns k) plexusref24_BlocksIn.lay plexusref24_BlocksIn.ann k (plexusref24_BlocksIn.s0) 50 Try.f16.results.toList (Go.Vx.bodyOf Try.f16) (a0, a1)
noncomputable def plexusref24_BlocksIn.m : (Nat) → (Int × Int × Int × Int) → (Int) → Option ((Int × Int) × Int) := hide plexusref24_BlocksIn.m0
theorem plexusref24_BlocksIn.m_hid : plexusref24_BlocksIn.m = plexusref24_BlocksIn.m0 := hide_eq _
theorem plexusref24_BlocksIn.m_eq (k : Nat) (a0 : Int × Int × Int × Int) (a1 : Int) : plexusref24_BlocksIn.m k a0 a1 = (Option.bind (plexusref24_Right.m k (a0.fst, a0.snd.fst, a0.snd.snd.fst, a0.snd.snd.snd)) fun (r4 : Int) => (if (r4 != 0) = true then some (((0, 0), 1)) else (if decide (a1 < 0) = true then some (((0, 0), 1)) else (if (decide (a1 > 1)) = true then some (((0, 0), 1)) else (if (a1 == 0) = true then (plexusref24_BlocksIn.j0 k   (IntKind.wrap IntKind.i64 (IntKind.wrap IntKind.i64 (a0.snd.snd.snd * IntKind.wrap IntKind.i64 (a0.snd.fst - 1)) * a0.snd.fst)) (IntKind.wrap IntKind.i64 (IntKind.wrap IntKind.i64 (a0.snd.snd.fst - 1) * a0.snd.snd.fst))) else (plexusref24_BlocksIn.j0 k   (IntKind.wrap IntKind.i64 (a0.snd.snd.snd * IntKind.wrap IntKind.i64 (a0.snd.fst - 1))) (IntKind.wrap IntKind.i64 (a0.snd.snd.fst - 1)))))))) := by
  rw [plexusref24_BlocksIn.m_hid]
  kernel_rfl
noncomputable def plexusref24_BlocksIn.sp (k : Nat) : Go.Vx.Spec := plexusref24_BlocksIn.s0.runs fun (x : plexusref24_BlocksIn.s0.argK.T) => plexusref24_BlocksIn.m k x.1 x.2
theorem plexusref24_BlocksIn.good (k : Nat) : Go.Vx.Good Try.prog 16 (plexusref24_BlocksIn.sp k) := Go.Vx.good_runsI Try.func16 (show Try.f16.body = some (Go.Vx.bodyOf Try.f16) by kernel_rfl) (by kernel_rfl) (by kernel_rfl) (plexusref24_BlocksIn.fns_good k) plexusref24_BlocksIn.lay_good (by
  intro x r h
  have h : plexusref24_BlocksIn.m k x.1 x.2 = some r := h
  rw [plexusref24_BlocksIn.m_hid] at h
  exact h)
noncomputable def plexusref24_Symmetric.s0 : Go.Vx.Spec := ⟨[some 4], (K.pair (K.int IntKind.i64) (K.pair (K.int IntKind.i64) (K.pair (K.int IntKind.i64) (K.int IntKind.i64)))), [.im (K.bool)], .one (none), false, fun _ => none⟩
noncomputable def plexusref24_Symmetric.fns (k : Nat) : Go.Vx.Fns := []
theorem plexusref24_Symmetric.fns_good (k : Nat) : (plexusref24_Symmetric.fns k).good Try.prog := Go.Vx.Fns.good_nil
def plexusref24_Symmetric.ann : List (Nat × Ann) := []
noncomputable def plexusref24_Symmetric.lay : Lay := .nil
theorem plexusref24_Symmetric.lay_good : plexusref24_Symmetric.lay.good Try.prog := True.intro
noncomputable def plexusref24_Symmetric.pl : Pl := ⟨0, plexusref24_Symmetric.lay, plexusref24_Symmetric.ann, (Go.Vx.bodyOf Try.f24)⟩
noncomputable def plexusref24_Symmetric.m0 (k : Nat) (a0 : Int × Int × Int × Int) : Option (Bool) :=
  execFI Try.prog (plexusref24_Symmetric.fns k) plexusref24_Symmetric.lay plexusref24_Symmetric.ann k (plexusref24_Symmetric.s0) 16 Try.f24.results.toList (Go.Vx.bodyOf Try.f24) a0
noncomputable def plexusref24_Symmetric.m : (Nat) → (Int × Int × Int × Int) → Option (Bool) := hide plexusref24_Symmetric.m0
theorem plexusref24_Symmetric.m_hid : plexusref24_Symmetric.m = plexusref24_Symmetric.m0 := hide_eq _
theorem plexusref24_Symmetric.m_eq (k : Nat) (a0 : Int × Int × Int × Int) : plexusref24_Symmetric.m k a0 = some (IntKind.wrap IntKind.i64 (a0.snd.snd.snd * IntKind.wrap IntKind.i64 (a0.snd.fst - 1)) == IntKind.wrap IntKind.i64 (a0.snd.snd.fst * IntKind.wrap IntKind.i64 (a0.snd.snd.fst - 1))) := by
  rw [plexusref24_Symmetric.m_hid]
  kernel_rfl
noncomputable def plexusref24_Symmetric.sp (k : Nat) : Go.Vx.Spec := plexusref24_Symmetric.s0.runs fun (x : plexusref24_Symmetric.s0.argK.T) => plexusref24_Symmetric.m k x
theorem plexusref24_Symmetric.good (k : Nat) : Go.Vx.Good Try.prog 24 (plexusref24_Symmetric.sp k) := Go.Vx.good_runsI Try.func24 (show Try.f24.body = some (Go.Vx.bodyOf Try.f24) by kernel_rfl) (by kernel_rfl) (by kernel_rfl) (plexusref24_Symmetric.fns_good k) plexusref24_Symmetric.lay_good (by
  intro x r h
  have h : plexusref24_Symmetric.m k x = some r := h
  rw [plexusref24_Symmetric.m_hid] at h
  exact h)
noncomputable def plexusref24_Sides.s0 : Go.Vx.Spec := ⟨[some 4], (K.pair (K.int IntKind.i64) (K.pair (K.int IntKind.i64) (K.pair (K.int IntKind.i64) (K.int IntKind.i64)))), [.im (K.pair (K.int IntKind.i64) (K.int IntKind.i64))], .one (some 2), false, fun _ => none⟩
noncomputable def plexusref24_Sides.fns (k : Nat) : Go.Vx.Fns := []
theorem plexusref24_Sides.fns_good (k : Nat) : (plexusref24_Sides.fns k).good Try.prog := Go.Vx.Fns.good_nil
def plexusref24_Sides.ann : List (Nat × Ann) := []
noncomputable def plexusref24_Sides.lay : Lay := .nil
theorem plexusref24_Sides.lay_good : plexusref24_Sides.lay.good Try.prog := True.intro
noncomputable def plexusref24_Sides.pl : Pl := ⟨0, plexusref24_Sides.lay, plexusref24_Sides.ann, (Go.Vx.bodyOf Try.f35)⟩
noncomputable def plexusref24_Sides.m0 (k : Nat) (a0 : Int × Int × Int × Int) : Option (Int × Int) :=
  execFI Try.prog (plexusref24_Sides.fns k) plexusref24_Sides.lay plexusref24_Sides.ann k (plexusref24_Sides.s0) 26 Try.f35.results.toList (Go.Vx.bodyOf Try.f35) a0
noncomputable def plexusref24_Sides.m : (Nat) → (Int × Int × Int × Int) → Option (Int × Int) := hide plexusref24_Sides.m0
theorem plexusref24_Sides.m_hid : plexusref24_Sides.m = plexusref24_Sides.m0 := hide_eq _
theorem plexusref24_Sides.m_eq (k : Nat) (a0 : Int × Int × Int × Int) : plexusref24_Sides.m k a0 = (if (divF BinOp.rem IntKind.i64 (divF BinOp.quo IntKind.i64 (IntKind.wrap IntKind.i64 (a0.snd.fst - 1)) 2) 2 == 0) = true then some ((IntKind.wrap IntKind.i64 (a0.snd.snd.fst - a0.snd.snd.snd), a0.snd.snd.snd)) else some ((IntKind.wrap IntKind.i64 (a0.snd.snd.fst - a0.snd.snd.snd), IntKind.wrap IntKind.i64 (0 - a0.snd.snd.snd)))) := by
  rw [plexusref24_Sides.m_hid]
  kernel_rfl
noncomputable def plexusref24_Sides.sp (k : Nat) : Go.Vx.Spec := plexusref24_Sides.s0.runs fun (x : plexusref24_Sides.s0.argK.T) => plexusref24_Sides.m k x
theorem plexusref24_Sides.good (k : Nat) : Go.Vx.Good Try.prog 35 (plexusref24_Sides.sp k) := Go.Vx.good_runsI Try.func35 (show Try.f35.body = some (Go.Vx.bodyOf Try.f35) by kernel_rfl) (by kernel_rfl) (by kernel_rfl) (plexusref24_Sides.fns_good k) plexusref24_Sides.lay_good (by
  intro x r h
  have h : plexusref24_Sides.m k x = some r := h
  rw [plexusref24_Sides.m_hid] at h
  exact h)
noncomputable def plexusref24_Check.s0 : Go.Vx.Spec := ⟨[some 4, some 3], (.pair (K.pair (K.int IntKind.i64) (K.pair (K.int IntKind.i64) (K.pair (K.int IntKind.i64) (K.int IntKind.i64)))) (K.pair (K.int IntKind.i64) (K.pair (K.int IntKind.i64) (K.int IntKind.i64)))), [.im (K.int IntKind.i64)], .one (none), false, fun _ => none⟩
noncomputable def plexusref24_Check.fns (k : Nat) : Go.Vx.Fns := [(13, plexusref24_Right.sp k), (16, plexusref24_BlocksIn.sp k), (24, plexusref24_Symmetric.sp k), (34, plexusref22_Square.sp k), (35, plexusref24_Sides.sp k), (36, plexusref22_Hilbert.sp k)]
theorem plexusref24_Check.fns_good (k : Nat) : (plexusref24_Check.fns k).good Try.prog := (Go.Vx.Fns.good_cons (plexusref24_Right.good k) (Go.Vx.Fns.good_cons (plexusref24_BlocksIn.good k) (Go.Vx.Fns.good_cons (plexusref24_Symmetric.good k) (Go.Vx.Fns.good_cons (plexusref22_Square.good k) (Go.Vx.Fns.good_cons (plexusref24_Sides.good k) (Go.Vx.Fns.good_cons (plexusref22_Hilbert.good k) Go.Vx.Fns.good_nil))))))
def plexusref24_Check.ann : List (Nat × Ann) := [(2000013, ⟨rg [(0, 2), (4, 1), (6, 70), (77, 20)], []⟩)]
noncomputable def plexusref24_Check.lay : Lay := .nil
theorem plexusref24_Check.lay_good : plexusref24_Check.lay.good Try.prog := True.intro
noncomputable def plexusref24_Check.pl : Pl := ⟨0, plexusref24_Check.lay, plexusref24_Check.ann, (Go.Vx.bodyOf Try.f18)⟩
noncomputable def plexusref24_Check.j0 (k : Nat)  (a0 : Int × Int × Int × Int) (a1 : Int × Int × Int) (v1 : Bool) : Option (Int) :=
  joinK (fun s_ => execP Try.prog (plexusref24_Check.fns k) k (plC [1, 1, 1, 0, 1, 0, 1, 1, 1, 1, 1, 1, 1, 0, 1] plexusref24_Check.pl) s_ (contP Try.prog (plexusref24_Check.fns k) k [1, 1, 1, 0, 1, 0, 1, 1, 1, 1, 1, 1, 1, 0, 1] [] plexusref24_Check.pl (finK Try.prog (plexusref24_Check.s0) Try.f18.results.toList))) ({ tmps := dz 2 ++ [AV.ptr 0 0, AV.ptr 1 0, AV.dead, AV.val (Value.bool false)] ++ dz 70 ++ [AV.val (Value.bool v1)] ++ dz 20, ents := [(0, Ent.box 24 [AV.val (Value.int IntKind.i64 a0.fst), AV.val (Value.int IntKind.i64 a0.snd.fst), AV.val (Value.int IntKind.i64 a0.snd.snd.fst), AV.val (Value.int IntKind.i64 a0.snd.snd.snd)]), (1, Ent.box 26 [AV.val (Value.int IntKind.i64 a1.fst), AV.val (Value.int IntKind.i64 a1.snd.fst), AV.val (Value.int IntKind.i64 a1.snd.snd)])], nx := 2 })
theorem plexusref24_Check.j0_eq (k : Nat)  (a0 : Int × Int × Int × Int) (a1 : Int × Int × Int) (v1 : Bool) : plexusref24_Check.j0 k  a0 a1 (v1) = (if (v1) = true then (Option.bind (plexusref24_Sides.m k (a0.fst, a0.snd.fst, a0.snd.snd.fst, a0.snd.snd.snd)) fun (r246 : Int × Int) => (Option.bind (plexusref22_Hilbert.m k r246.fst r246.snd a1.snd.snd) fun (r260 : Int × Int) => (if (r260.snd == 0) = true then (if (!r260.fst == -1) = true then some (240) else some (0)) else some (240)))) else some (240)) := by
  unfold plexusref24_Check.j0
  rw [joinK_eq]
  kernel_rfl
noncomputable def plexusref24_Check.m0 (k : Nat) (a0 : Int × Int × Int × Int) (a1 : Int × Int × Int) : Option (Int) :=
  execFI Try.prog (plexusref24_Check.fns k) plexusref24_Check.lay plexusref24_Check.ann k (plexusref24_Check.s0) 97 Try.f18.results.toList (Go.Vx.bodyOf Try.f18) (a0, a1)
noncomputable def plexusref24_Check.m : (Nat) → (Int × Int × Int × Int) → (Int × Int × Int) → Option (Int) := hide plexusref24_Check.m0
theorem plexusref24_Check.m_hid : plexusref24_Check.m = plexusref24_Check.m0 := hide_eq _
theorem plexusref24_Check.m_eq (k : Nat) (a0 : Int × Int × Int × Int) (a1 : Int × Int × Int) : plexusref24_Check.m k a0 a1 = (Option.bind (plexusref24_Right.m k (a0.fst, a0.snd.fst, a0.snd.snd.fst, a0.snd.snd.snd)) fun (r5 : Int) => (if (r5 != 0) = true then some (1) else (if (a1.fst == 1) = true then (if (a1.snd.fst == 0) = true then (Option.bind (plexusref24_BlocksIn.m k (a0.fst, a0.snd.fst, a0.snd.snd.fst, a0.snd.snd.snd) a1.snd.fst) fun (r35 : (Int × Int) × Int) => (if (!r35.fst.snd != 1) = true then some (240) else some (0))) else (if (a1.snd.fst == 1) = true then (Option.bind (plexusref24_BlocksIn.m k (a0.fst, a0.snd.fst, a0.snd.snd.fst, a0.snd.snd.snd) a1.snd.fst) fun (r67 : (Int × Int) × Int) => (if (!r67.fst.snd != 1) = true then some (240) else some (0))) else some (240))) else (if (a1.fst == 2) = true then (if (!decide (IntKind.wrap IntKind.i64 (a0.snd.snd.snd * IntKind.wrap IntKind.i64 (a0.snd.fst - 1)) < IntKind.wrap IntKind.i64 (a0.snd.snd.fst * IntKind.wrap IntKind.i64 (a0.snd.snd.fst - 1)))) = true then some (240) else some (0)) else (if (a1.fst == 3) = true then (Option.bind (plexusref24_Symmetric.m k (a0.fst, a0.snd.fst, a0.snd.snd.fst, a0.snd.snd.snd)) fun (r129 : Bool) => (if r129 = true then (if (divF BinOp.rem IntKind.i64 a0.snd.fst 2 == 0) = true then (Option.bind (plexusref22_Square.m k (IntKind.wrap IntKind.i64 (a0.snd.snd.fst - a0.snd.snd.snd))) fun (r155 : Bool) => (if (!!r155) = true then some (240) else some (0))) else some (240)) else some (240))) else (if (a1.fst == 4) = true then (Option.bind (plexusref24_Symmetric.m k (a0.fst, a0.snd.fst, a0.snd.snd.fst, a0.snd.snd.snd)) fun (r298 : Bool) => (if r298 = true then (plexusref24_Check.j0 k  a0 a1 (divF BinOp.rem IntKind.i64 a0.snd.fst 2 == 1)) else (plexusref24_Check.j0 k  a0 a1 (false)))) else some (240))))))) := by
  rw [plexusref24_Check.m_hid]
  kernel_rfl
noncomputable def plexusref24_Check.sp (k : Nat) : Go.Vx.Spec := plexusref24_Check.s0.runs fun (x : plexusref24_Check.s0.argK.T) => plexusref24_Check.m k x.1 x.2
theorem plexusref24_Check.good (k : Nat) : Go.Vx.Good Try.prog 18 (plexusref24_Check.sp k) := Go.Vx.good_runsI Try.func18 (show Try.f18.body = some (Go.Vx.bodyOf Try.f18) by kernel_rfl) (by kernel_rfl) (by kernel_rfl) (plexusref24_Check.fns_good k) plexusref24_Check.lay_good (by
  intro x r h
  have h : plexusref24_Check.m k x.1 x.2 = some r := h
  rw [plexusref24_Check.m_hid] at h
  exact h)
noncomputable def plexusref24_All.s0 : Go.Vx.Spec := ⟨[], .unit, [.own ((K.pair (K.int IntKind.i64) (K.pair (K.int IntKind.i64) (K.int IntKind.i64)))) 26], .one (none), false, fun _ => none⟩
noncomputable def plexusref24_All.fns (k : Nat) : Go.Vx.Fns := [(38, plexusref22_Place.sp k)]
theorem plexusref24_All.fns_good (k : Nat) : (plexusref24_All.fns k).good Try.prog := (Go.Vx.Fns.good_cons (plexusref22_Place.good k) Go.Vx.Fns.good_nil)
def plexusref24_All.ann : List (Nat × Ann) := [(1000003, ⟨rg [(0, 1), (3, 18)], []⟩)]
noncomputable def plexusref24_All.lay : Lay := .nil
theorem plexusref24_All.lay_good : plexusref24_All.lay.good Try.prog := True.intro
noncomputable def plexusref24_All.pl : Pl := ⟨0, plexusref24_All.lay, plexusref24_All.ann, (Go.Vx.bodyOf Try.f22)⟩
noncomputable def plexusref24_All.l0 (n_ k : Nat)   (v0 : Int) (v1 : List (Int × Int × Int)) : Option (List (Int × Int × Int)) :=
  loopK n_ (execP Try.prog (plexusref24_All.fns k) k (plC [1, 1, 0, 1, 0, 0] plexusref24_All.pl)) (nmP (plC [1, 1, 0, 1, 0, 0] plexusref24_All.pl)) ({ tmps := [AV.dead, AV.own 0, AV.val (Value.int IntKind.i64 v0)] ++ dz 18, ents := [(0, Ent.row { k := K.pair (K.int IntKind.i64) (K.pair (K.int IntKind.i64) (K.int IntKind.i64)), T := 26, fz := false, xs := v1 })], nx := 1 }) (contP Try.prog (plexusref24_All.fns k) k [1, 1, 0, 1, 0] [] plexusref24_All.pl (finK Try.prog (plexusref24_All.s0) Try.f22.results.toList))
theorem plexusref24_All.l0_succ (n0 k : Nat)   (v0 : Int) (v1 : List (Int × Int × Int)) : plexusref24_All.l0 (n0 + 1) k   (v0) (v1) = (if (decide (v0 ≤ 200)) = true then (Option.bind (plexusref22_Place.m k v0) fun (r50 : Bool) => (if (r50) = true then (if (List.length v1 + List.length [(4, 0, v0)]) * 24 ≤ 140737488355328 then (plexusref24_All.l0 n0 k   (IntKind.wrap IntKind.i64 (v0 + 1)) (v1 ++ [(4, 0, v0)])) else none) else (plexusref24_All.l0 n0 k   (IntKind.wrap IntKind.i64 (v0 + 1)) (v1)))) else some (v1)) := by kernel_rfl
noncomputable def plexusref24_All.m0 (k : Nat) : Option (List (Int × Int × Int)) :=
  execFI Try.prog (plexusref24_All.fns k) plexusref24_All.lay plexusref24_All.ann k (plexusref24_All.s0) 21 Try.f22.results.toList (Go.Vx.bodyOf Try.f22) ()
noncomputable def plexusref24_All.m : (Nat) → Option (List (Int × Int × Int)) := hide plexusref24_All.m0
theorem plexusref24_All.m_hid : plexusref24_All.m = plexusref24_All.m0 := hide_eq _
theorem plexusref24_All.m_eq (k : Nat) : plexusref24_All.m k = (plexusref24_All.l0 k k   (2) ([(1, 0, 0), (1, 1, 0), (2, 0, 0), (3, 0, 0), (4, 0, 0)])) := by
  rw [plexusref24_All.m_hid]
  kernel_rfl
noncomputable def plexusref24_All.sp (k : Nat) : Go.Vx.Spec := plexusref24_All.s0.runs fun (x : plexusref24_All.s0.argK.T) => plexusref24_All.m k 
theorem plexusref24_All.good (k : Nat) : Go.Vx.Good Try.prog 22 (plexusref24_All.sp k) := Go.Vx.good_runsI Try.func22 (show Try.f22.body = some (Go.Vx.bodyOf Try.f22) by kernel_rfl) (by kernel_rfl) (by kernel_rfl) (plexusref24_All.fns_good k) plexusref24_All.lay_good (by
  intro x r h
  have h : plexusref24_All.m k  = some r := h
  rw [plexusref24_All.m_hid] at h
  exact h)
noncomputable def plexusref24_WhyIn.s0 : Go.Vx.Spec := ⟨[some 4], (K.pair (K.int IntKind.i64) (K.pair (K.int IntKind.i64) (K.pair (K.int IntKind.i64) (K.int IntKind.i64)))), [.im (K.pair (K.pair (K.int IntKind.i64) (K.pair (K.int IntKind.i64) (K.int IntKind.i64))) (K.int IntKind.i64))], .one (some 4), false, fun _ => none⟩
noncomputable def plexusref24_WhyIn.fns (k : Nat) : Go.Vx.Fns := [(13, plexusref24_Right.sp k), (22, plexusref24_All.sp k), (18, plexusref24_Check.sp k)]
theorem plexusref24_WhyIn.fns_good (k : Nat) : (plexusref24_WhyIn.fns k).good Try.prog := (Go.Vx.Fns.good_cons (plexusref24_Right.good k) (Go.Vx.Fns.good_cons (plexusref24_All.good k) (Go.Vx.Fns.good_cons (plexusref24_Check.good k) Go.Vx.Fns.good_nil)))
def plexusref24_WhyIn.ann : List (Nat × Ann) := [(1000005, ⟨rg [(0, 1), (5, 24)], []⟩)]
noncomputable def plexusref24_WhyIn.lay : Lay := .nil
theorem plexusref24_WhyIn.lay_good : plexusref24_WhyIn.lay.good Try.prog := True.intro
noncomputable def plexusref24_WhyIn.pl : Pl := ⟨0, plexusref24_WhyIn.lay, plexusref24_WhyIn.ann, (Go.Vx.bodyOf Try.f11)⟩
noncomputable def plexusref24_WhyIn.l0 (n_ k : Nat)  (a0 : Int × Int × Int × Int) (r10 : List (Int × Int × Int)) (v0 : Int) : Option ((Int × Int × Int) × Int) :=
  loopK n_ (execP Try.prog (plexusref24_WhyIn.fns k) k (plC [1, 1, 1, 0, 1, 0, 0] plexusref24_WhyIn.pl)) (nmP (plC [1, 1, 1, 0, 1, 0, 0] plexusref24_WhyIn.pl)) ({ tmps := [AV.dead, AV.ptr 0 0, AV.ptr 1 0, AV.own 2, AV.val (Value.int IntKind.i64 v0)] ++ dz 24, ents := [(0, Ent.box 24 [AV.val (Value.int IntKind.i64 a0.fst), AV.val (Value.int IntKind.i64 a0.snd.fst), AV.val (Value.int IntKind.i64 a0.snd.snd.fst), AV.val (Value.int IntKind.i64 a0.snd.snd.snd)]), (1, Ent.box 32 [AV.val (Value.int IntKind.i64 0), AV.val (Value.int IntKind.i64 0), AV.val (Value.int IntKind.i64 0), AV.val (Value.int IntKind.i64 0)]), (2, Ent.row { k := K.pair (K.int IntKind.i64) (K.pair (K.int IntKind.i64) (K.int IntKind.i64)), T := 26, fz := false, xs := r10 })], nx := 3 }) (contP Try.prog (plexusref24_WhyIn.fns k) k [1, 1, 1, 0, 1, 0] [] plexusref24_WhyIn.pl (finK Try.prog (plexusref24_WhyIn.s0) Try.f11.results.toList))
theorem plexusref24_WhyIn.l0_succ (n0 k : Nat)  (a0 : Int × Int × Int × Int) (r10 : List (Int × Int × Int)) (v0 : Int) : plexusref24_WhyIn.l0 (n0 + 1) k  a0 r10 (v0) = (if (decide (v0 < (↑(List.length r10) : Int))) = true then (if 0 ≤ v0 then (if v0 < (↑(List.length r10) : Int) then (Option.bind (plexusref24_Check.m k (a0.fst, a0.snd.fst, a0.snd.snd.fst, a0.snd.snd.snd) ((List.getD r10 (Int.toNat v0) (Int.ofNat 0, Int.ofNat 0, Int.ofNat 0)).fst, (List.getD r10 (Int.toNat v0) (Int.ofNat 0, Int.ofNat 0, Int.ofNat 0)).snd.fst, (List.getD r10 (Int.toNat v0) (Int.ofNat 0, Int.ofNat 0, Int.ofNat 0)).snd.snd)) fun (r81 : Int) => (if (r81 == 0) = true then (if 0 ≤ v0 then (if v0 < (↑(List.length r10) : Int) then some ((((List.getD r10 (Int.toNat v0) (Int.ofNat 0, Int.ofNat 0, Int.ofNat 0)).fst, (List.getD r10 (Int.toNat v0) (Int.ofNat 0, Int.ofNat 0, Int.ofNat 0)).snd.fst, (List.getD r10 (Int.toNat v0) (Int.ofNat 0, Int.ofNat 0, Int.ofNat 0)).snd.snd), 0)) else none) else none) else (plexusref24_WhyIn.l0 n0 k  a0 r10 (IntKind.wrap IntKind.i64 (v0 + 1))))) else none) else none) else some (((0, 0, 0), 4))) := by kernel_rfl
noncomputable def plexusref24_WhyIn.m0 (k : Nat) (a0 : Int × Int × Int × Int) : Option ((Int × Int × Int) × Int) :=
  execFI Try.prog (plexusref24_WhyIn.fns k) plexusref24_WhyIn.lay plexusref24_WhyIn.ann k (plexusref24_WhyIn.s0) 29 Try.f11.results.toList (Go.Vx.bodyOf Try.f11) a0
noncomputable def plexusref24_WhyIn.m : (Nat) → (Int × Int × Int × Int) → Option ((Int × Int × Int) × Int) := hide plexusref24_WhyIn.m0
theorem plexusref24_WhyIn.m_hid : plexusref24_WhyIn.m = plexusref24_WhyIn.m0 := hide_eq _
theorem plexusref24_WhyIn.m_eq (k : Nat) (a0 : Int × Int × Int × Int) : plexusref24_WhyIn.m k a0 = (Option.bind (plexusref24_Right.m k (a0.fst, a0.snd.fst, a0.snd.snd.fst, a0.snd.snd.snd)) fun (r4 : Int) => (if (r4 != 0) = true then some (((0, 0, 0), 1)) else (Option.bind (plexusref24_All.m k) fun (r10 : List (Int × Int × Int)) => (plexusref24_WhyIn.l0 k k  a0 r10 (0))))) := by
  rw [plexusref24_WhyIn.m_hid]
  kernel_rfl
noncomputable def plexusref24_WhyIn.sp (k : Nat) : Go.Vx.Spec := plexusref24_WhyIn.s0.runs fun (x : plexusref24_WhyIn.s0.argK.T) => plexusref24_WhyIn.m k x
theorem plexusref24_WhyIn.good (k : Nat) : Go.Vx.Good Try.prog 11 (plexusref24_WhyIn.sp k) := Go.Vx.good_runsI Try.func11 (show Try.f11.body = some (Go.Vx.bodyOf Try.f11) by kernel_rfl) (by kernel_rfl) (by kernel_rfl) (plexusref24_WhyIn.fns_good k) plexusref24_WhyIn.lay_good (by
  intro x r h
  have h : plexusref24_WhyIn.m k x = some r := h
  rw [plexusref24_WhyIn.m_hid] at h
  exact h)
noncomputable def plexusref24_OpenIn.s0 : Go.Vx.Spec := ⟨[none, none, none], (.pair (K.int IntKind.i64) (.pair (K.int IntKind.i64) (K.int IntKind.i64))), [.im (K.pair (K.slice (K.int IntKind.i64)) (K.int IntKind.i64))], .one (some 2), true, fun _ => none⟩
noncomputable def plexusref24_OpenIn.fns (k : Nat) : Go.Vx.Fns := [(13, plexusref24_Right.sp k), (11, plexusref24_WhyIn.sp k)]
theorem plexusref24_OpenIn.fns_good (k : Nat) : (plexusref24_OpenIn.fns k).good Try.prog := (Go.Vx.Fns.good_cons (plexusref24_Right.good k) (Go.Vx.Fns.good_cons (plexusref24_WhyIn.good k) Go.Vx.Fns.good_nil))
def plexusref24_OpenIn.ann : List (Nat × Ann) := [(1000005, ⟨rg [(3, 3), (9, 33)], []⟩)]
noncomputable def plexusref24_OpenIn.lay : Lay := .nil
theorem plexusref24_OpenIn.lay_good : plexusref24_OpenIn.lay.good Try.prog := True.intro
noncomputable def plexusref24_OpenIn.pl : Pl := ⟨0, plexusref24_OpenIn.lay, plexusref24_OpenIn.ann, (Go.Vx.bodyOf Try.f20)⟩
noncomputable def plexusref24_OpenIn.l0 (n_ k : Nat)  (a0 : Int) (a1 : Int) (a2 : Int) (v3 : Int) (v5 : List Int) : Option (List Int × Int) :=
  loopK n_ (execP Try.prog (plexusref24_OpenIn.fns k) k (plC [1, 1, 1, 0, 1, 0, 0] plexusref24_OpenIn.pl)) (nmP (plC [1, 1, 1, 0, 1, 0, 0] plexusref24_OpenIn.pl)) ({ tmps := [AV.val (Value.int IntKind.i64 a0), AV.val (Value.int IntKind.i64 a1), AV.val (Value.int IntKind.i64 a2)] ++ dz 3 ++ [AV.ptr 0 0, AV.own 1, AV.val (Value.int IntKind.i64 v3)] ++ dz 33, ents := [(0, Ent.box 43 [AV.val (Value.slice none 0 0), AV.val (Value.int IntKind.i64 0)]), (1, Ent.row { k := K.int IntKind.i64, T := 3, fz := false, xs := v5 })], nx := 2 }) (contP Try.prog (plexusref24_OpenIn.fns k) k [1, 1, 1, 0, 1, 0] [] plexusref24_OpenIn.pl (finK Try.prog (plexusref24_OpenIn.s0) Try.f20.results.toList))
theorem plexusref24_OpenIn.l0_succ (n0 k : Nat)  (a0 : Int) (a1 : Int) (a2 : Int) (v3 : Int) (v5 : List Int) : plexusref24_OpenIn.l0 (n0 + 1) k  a0 a1 a2 (v3) (v5) = (if (decide (v3 ≤ a2)) = true then (Option.bind (plexusref24_WhyIn.m k (2, a0, a1, v3)) fun (r120 : (Int × Int × Int) × Int) => (if (r120.snd == 4) = true then (if (List.length v5 + List.length [v3]) * 8 ≤ 140737488355328 then (plexusref24_OpenIn.l0 n0 k  a0 a1 a2 (IntKind.wrap IntKind.i64 (v3 + 1)) (v5 ++ [v3])) else none) else (plexusref24_OpenIn.l0 n0 k  a0 a1 a2 (IntKind.wrap IntKind.i64 (v3 + 1)) (v5)))) else some ((v5, 0))) := by kernel_rfl
noncomputable def plexusref24_OpenIn.m0 (k : Nat) (a0 : Int) (a1 : Int) (a2 : Int) : Option (List Int × Int) :=
  execFI Try.prog (plexusref24_OpenIn.fns k) plexusref24_OpenIn.lay plexusref24_OpenIn.ann k (plexusref24_OpenIn.s0) 42 Try.f20.results.toList (Go.Vx.bodyOf Try.f20) (a0, a1, a2)
noncomputable def plexusref24_OpenIn.m : (Nat) → (Int) → (Int) → (Int) → Option (List Int × Int) := hide plexusref24_OpenIn.m0
theorem plexusref24_OpenIn.m_hid : plexusref24_OpenIn.m = plexusref24_OpenIn.m0 := hide_eq _
theorem plexusref24_OpenIn.m_eq (k : Nat) (a0 : Int) (a1 : Int) (a2 : Int) : plexusref24_OpenIn.m k a0 a1 a2 = (if decide (a2 < 1) = true then some (([], 1)) else (if decide (a2 > 20) = true then some (([], 1)) else (Option.bind (plexusref24_Right.m k (2, a0, a1, 1)) fun (r54 : Int) => (if (r54 != 0) = true then some (([], 1)) else (plexusref24_OpenIn.l0 k k  a0 a1 a2 (1) ([])))))) := by
  rw [plexusref24_OpenIn.m_hid]
  kernel_rfl
noncomputable def plexusref24_OpenIn.sp (k : Nat) : Go.Vx.Spec := plexusref24_OpenIn.s0.runs fun (x : plexusref24_OpenIn.s0.argK.T) => plexusref24_OpenIn.m k x.1 x.2.1 x.2.2
theorem plexusref24_OpenIn.good (k : Nat) : Go.Vx.Good Try.prog 20 (plexusref24_OpenIn.sp k) := Go.Vx.good_runsI Try.func20 (show Try.f20.body = some (Go.Vx.bodyOf Try.f20) by kernel_rfl) (by kernel_rfl) (by kernel_rfl) (plexusref24_OpenIn.fns_good k) plexusref24_OpenIn.lay_good (by
  intro x r h
  have h : plexusref24_OpenIn.m k x.1 x.2.1 x.2.2 = some r := h
  rw [plexusref24_OpenIn.m_hid] at h
  exact h)
noncomputable def plexusref24_Near.s0 : Go.Vx.Spec := ⟨[some 4], (K.pair (K.int IntKind.u8) (K.pair (K.int IntKind.u8) (K.pair (K.int IntKind.u8) (K.int IntKind.u8)))), [.im (K.pair (K.int IntKind.i64) (K.pair (K.int IntKind.i64) (K.pair (K.int IntKind.i64) (K.int IntKind.i64))))], .one (some 4), false, fun _ => none⟩
noncomputable def plexusref24_Near.fns (k : Nat) : Go.Vx.Fns := []
theorem plexusref24_Near.fns_good (k : Nat) : (plexusref24_Near.fns k).good Try.prog := Go.Vx.Fns.good_nil
def plexusref24_Near.ann : List (Nat × Ann) := [(1000003, ⟨rg [(0, 2), (4, 46)], []⟩)]
noncomputable def plexusref24_Near.lay : Lay := .nil
theorem plexusref24_Near.lay_good : plexusref24_Near.lay.good Try.prog := True.intro
noncomputable def plexusref24_Near.pl : Pl := ⟨0, plexusref24_Near.lay, plexusref24_Near.ann, (Go.Vx.bodyOf Try.f10)⟩
noncomputable def plexusref24_Near.l0 (n_ k : Nat)  (a0 : Int × Int × Int × Int) (v7 : Int) : Option (Int × Int × Int × Int) :=
  loopK n_ (execP Try.prog (plexusref24_Near.fns k) k (plC [1, 1, 0, 1, 0, 0, 0, 0] plexusref24_Near.pl)) (nmP (plC [1, 1, 0, 1, 0, 0, 0, 0] plexusref24_Near.pl)) ({ tmps := dz 2 ++ [AV.ptr 0 0, AV.ptr 1 0] ++ dz 46, ents := [(0, Ent.box 24 [AV.val (Value.int IntKind.i64 0), AV.val (Value.int IntKind.i64 0), AV.val (Value.int IntKind.i64 0), AV.val (Value.int IntKind.i64 0)]), (1, Ent.box 24 [AV.val (Value.int IntKind.i64 2), AV.val (Value.int IntKind.i64 (IntKind.wrap IntKind.i64 (3 + IntKind.wrap IntKind.i64 (divF BinOp.rem IntKind.u8 a0.fst 40)))), AV.val (Value.int IntKind.i64 (IntKind.wrap IntKind.i64 (2 + IntKind.wrap IntKind.i64 (divF BinOp.rem IntKind.u8 a0.snd.fst 12)))), AV.val (Value.int IntKind.i64 v7)])], nx := 2 }) (contP Try.prog (plexusref24_Near.fns k) k [1, 1, 0, 1, 0, 0, 0] [] plexusref24_Near.pl (finK Try.prog (plexusref24_Near.s0) Try.f10.results.toList))
theorem plexusref24_Near.l0_succ (n0 k : Nat)  (a0 : Int × Int × Int × Int) (v7 : Int) : plexusref24_Near.l0 (n0 + 1) k  a0 (v7) = (if v7 = 0 then none else (if (divF BinOp.rem IntKind.i64 (IntKind.wrap IntKind.i64 (IntKind.wrap IntKind.i64 (2 + IntKind.wrap IntKind.i64 (divF BinOp.rem IntKind.u8 a0.snd.fst 12)) * IntKind.wrap IntKind.i64 (IntKind.wrap IntKind.i64 (2 + IntKind.wrap IntKind.i64 (divF BinOp.rem IntKind.u8 a0.snd.fst 12)) - 1))) v7 != 0) = true then (plexusref24_Near.l0 n0 k  a0 (IntKind.wrap IntKind.i64 (v7 - 1))) else (if v7 = 0 then none else some ((2, IntKind.wrap IntKind.i64 (1 + divF BinOp.quo IntKind.i64 (IntKind.wrap IntKind.i64 (IntKind.wrap IntKind.i64 (2 + IntKind.wrap IntKind.i64 (divF BinOp.rem IntKind.u8 a0.snd.fst 12)) * IntKind.wrap IntKind.i64 (IntKind.wrap IntKind.i64 (2 + IntKind.wrap IntKind.i64 (divF BinOp.rem IntKind.u8 a0.snd.fst 12)) - 1))) v7), IntKind.wrap IntKind.i64 (2 + IntKind.wrap IntKind.i64 (divF BinOp.rem IntKind.u8 a0.snd.fst 12)), v7))))) := by kernel_rfl
noncomputable def plexusref24_Near.m0 (k : Nat) (a0 : Int × Int × Int × Int) : Option (Int × Int × Int × Int) :=
  execFI Try.prog (plexusref24_Near.fns k) plexusref24_Near.lay plexusref24_Near.ann k (plexusref24_Near.s0) 50 Try.f10.results.toList (Go.Vx.bodyOf Try.f10) a0
noncomputable def plexusref24_Near.m : (Nat) → (Int × Int × Int × Int) → Option (Int × Int × Int × Int) := hide plexusref24_Near.m0
theorem plexusref24_Near.m_hid : plexusref24_Near.m = plexusref24_Near.m0 := hide_eq _
theorem plexusref24_Near.m_eq (k : Nat) (a0 : Int × Int × Int × Int) : plexusref24_Near.m k a0 = (if (divF BinOp.rem IntKind.u8 a0.snd.snd.snd 2 == 0) = true then (plexusref24_Near.l0 k k  a0 (IntKind.wrap IntKind.i64 (1 + IntKind.wrap IntKind.i64 (divF BinOp.rem IntKind.u8 a0.snd.snd.fst 6)))) else some ((2, IntKind.wrap IntKind.i64 (3 + IntKind.wrap IntKind.i64 (divF BinOp.rem IntKind.u8 a0.fst 40)), IntKind.wrap IntKind.i64 (2 + IntKind.wrap IntKind.i64 (divF BinOp.rem IntKind.u8 a0.snd.fst 12)), IntKind.wrap IntKind.i64 (1 + IntKind.wrap IntKind.i64 (divF BinOp.rem IntKind.u8 a0.snd.snd.fst 6))))) := by
  rw [plexusref24_Near.m_hid]
  kernel_rfl
noncomputable def plexusref24_Near.sp (k : Nat) : Go.Vx.Spec := plexusref24_Near.s0.runs fun (x : plexusref24_Near.s0.argK.T) => plexusref24_Near.m k x
theorem plexusref24_Near.good (k : Nat) : Go.Vx.Good Try.prog 10 (plexusref24_Near.sp k) := Go.Vx.good_runsI Try.func10 (show Try.f10.body = some (Go.Vx.bodyOf Try.f10) by kernel_rfl) (by kernel_rfl) (by kernel_rfl) (plexusref24_Near.fns_good k) plexusref24_Near.lay_good (by
  intro x r h
  have h : plexusref24_Near.m k x = some r := h
  rw [plexusref24_Near.m_hid] at h
  exact h)
end Go.Proofs.Ytokaigninenjhaa.V22
