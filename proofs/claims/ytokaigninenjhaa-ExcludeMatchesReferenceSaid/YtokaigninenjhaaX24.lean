/- Functions as the abstract executor tells them: equations, and contracts; printed by a tool. -/
import Derived.Test.YtokaigninenjhaaX22
namespace Go.Proofs.Ytokaigninenjhaa.V22
open Go Go.Vx Go.Proofs
set_option linter.unusedVariables false
set_option maxRecDepth 100000
noncomputable def exclude_Right.s0 : Go.Vx.Spec := ⟨[some 4], (K.pair (K.int IntKind.i64) (K.pair (K.int IntKind.i64) (K.pair (K.int IntKind.i64) (K.int IntKind.i64)))), [.im (K.int IntKind.i64)], .one (none), false, fun _ => none⟩
noncomputable def exclude_Right.fns (k : Nat) : Go.Vx.Fns := []
theorem exclude_Right.fns_good (k : Nat) : (exclude_Right.fns k).good Try.prog := Go.Vx.Fns.good_nil
def exclude_Right.ann : List (Nat × Ann) := []
noncomputable def exclude_Right.lay : Lay := .nil
theorem exclude_Right.lay_good : exclude_Right.lay.good Try.prog := True.intro
noncomputable def exclude_Right.pl : Pl := ⟨0, exclude_Right.lay, exclude_Right.ann, (Go.Vx.bodyOf Try.f12)⟩
noncomputable def exclude_Right.m0 (k : Nat) (a0 : Int × Int × Int × Int) : Option (Int) :=
  execFI Try.prog (exclude_Right.fns k) exclude_Right.lay exclude_Right.ann k (exclude_Right.s0) 33 Try.f12.results.toList (Go.Vx.bodyOf Try.f12) a0
noncomputable def exclude_Right.m : (Nat) → (Int × Int × Int × Int) → Option (Int) := hide exclude_Right.m0
theorem exclude_Right.m_hid : exclude_Right.m = exclude_Right.m0 := hide_eq _
theorem exclude_Right.m_eq (k : Nat) (a0 : Int × Int × Int × Int) : exclude_Right.m k a0 = (if (a0.fst != 2) = true then some (1) else (if decide (a0.snd.snd.fst < 2) = true then some (1) else (if decide (a0.snd.snd.fst ≥ a0.snd.fst) = true then some (1) else (if decide (a0.snd.fst > 100) = true then some (1) else (if decide (a0.snd.snd.snd < 1) = true then some (1) else (if (decide (a0.snd.snd.snd > 20)) = true then some (1) else some (0))))))) := by
  rw [exclude_Right.m_hid]
  kernel_rfl
noncomputable def exclude_Right.sp (k : Nat) : Go.Vx.Spec := exclude_Right.s0.runs fun (x : exclude_Right.s0.argK.T) => exclude_Right.m k x
theorem exclude_Right.good (k : Nat) : Go.Vx.Good Try.prog 12 (exclude_Right.sp k) := Go.Vx.good_runsI Try.func12 (show Try.f12.body = some (Go.Vx.bodyOf Try.f12) by kernel_rfl) (by kernel_rfl) (by kernel_rfl) (exclude_Right.fns_good k) exclude_Right.lay_good (by
  intro x r h
  have h : exclude_Right.m k x = some r := h
  rw [exclude_Right.m_hid] at h
  exact h)
noncomputable def exclude_Blocks.s0 : Go.Vx.Spec := ⟨[some 4, none], (.pair (K.pair (K.int IntKind.i64) (K.pair (K.int IntKind.i64) (K.pair (K.int IntKind.i64) (K.int IntKind.i64)))) (K.int IntKind.i64)), [.im (K.pair (K.int IntKind.i64) (K.int IntKind.i64)), .im (K.int IntKind.i64)], .tup [some 2, none], false, fun _ => none⟩
noncomputable def exclude_Blocks.fns (k : Nat) : Go.Vx.Fns := [(12, exclude_Right.sp k)]
theorem exclude_Blocks.fns_good (k : Nat) : (exclude_Blocks.fns k).good Try.prog := (Go.Vx.Fns.good_cons (exclude_Right.good k) Go.Vx.Fns.good_nil)
def exclude_Blocks.ann : List (Nat × Ann) := [(1000008, ⟨rg [(0, 4), (5, 1), (9, 55)], []⟩), (2000007, ⟨rg [(0, 4), (5, 1), (7, 57)], []⟩), (2000003, ⟨rg [(0, 1), (3, 1), (5, 59)], []⟩)]
noncomputable def exclude_Blocks.lay : Lay := .nil
theorem exclude_Blocks.lay_good : exclude_Blocks.lay.good Try.prog := True.intro
noncomputable def exclude_Blocks.pl : Pl := ⟨0, exclude_Blocks.lay, exclude_Blocks.ann, (Go.Vx.bodyOf Try.f31)⟩
noncomputable def exclude_Blocks.l0 (n_ k : Nat)  (v2 : Int) (v3 : Int) (v0 : Int) (v1 : Int) : Option ((Int × Int) × Int) :=
  loopK n_ (execP Try.prog (exclude_Blocks.fns k) k (plC [1, 1, 1, 1, 1, 0, 0, 0] exclude_Blocks.pl)) (nmP (plC [1, 1, 1, 1, 1, 0, 0, 0] exclude_Blocks.pl)) ({ tmps := dz 4 ++ [AV.ptr 0 0, AV.dead, AV.ptr 1 0, AV.val (Value.int IntKind.i64 v0), AV.val (Value.int IntKind.i64 v1)] ++ dz 55, ents := [(0, Ent.box 36 [AV.val (Value.int IntKind.i64 0), AV.val (Value.int IntKind.i64 0)]), (1, Ent.box 36 [AV.val (Value.int IntKind.i64 v2), AV.val (Value.int IntKind.i64 v3)])], nx := 2 }) (contP Try.prog (exclude_Blocks.fns k) k [1, 1, 1, 1, 1, 0, 0] [] exclude_Blocks.pl (finK Try.prog (exclude_Blocks.s0) Try.f31.results.toList))
noncomputable def exclude_Blocks.j1 (k : Nat)   (v2 : Int) (v3 : Int) : Option ((Int × Int) × Int) :=
  joinK (fun s_ => execP Try.prog (exclude_Blocks.fns k) k (plC [1, 1, 1, 1] exclude_Blocks.pl) s_ (contP Try.prog (exclude_Blocks.fns k) k [1, 1, 1, 1] [] exclude_Blocks.pl (finK Try.prog (exclude_Blocks.s0) Try.f31.results.toList))) ({ tmps := dz 4 ++ [AV.ptr 0 0, AV.dead, AV.ptr 1 0] ++ dz 57, ents := [(0, Ent.box 36 [AV.val (Value.int IntKind.i64 0), AV.val (Value.int IntKind.i64 0)]), (1, Ent.box 36 [AV.val (Value.int IntKind.i64 v2), AV.val (Value.int IntKind.i64 v3)])], nx := 2 })
noncomputable def exclude_Blocks.j0 (k : Nat)  (a0 : Int × Int × Int × Int) (a1 : Int)  : Option ((Int × Int) × Int) :=
  joinK (fun s_ => execP Try.prog (exclude_Blocks.fns k) k (plC [1, 1] exclude_Blocks.pl) s_ (contP Try.prog (exclude_Blocks.fns k) k [1, 1] [] exclude_Blocks.pl (finK Try.prog (exclude_Blocks.s0) Try.f31.results.toList))) ({ tmps := [AV.dead, AV.val (Value.int IntKind.i64 a1), AV.ptr 0 0, AV.dead, AV.ptr 1 0] ++ dz 59, ents := [(0, Ent.box 24 [AV.val (Value.int IntKind.i64 a0.fst), AV.val (Value.int IntKind.i64 a0.snd.fst), AV.val (Value.int IntKind.i64 a0.snd.snd.fst), AV.val (Value.int IntKind.i64 a0.snd.snd.snd)]), (1, Ent.box 36 [AV.val (Value.int IntKind.i64 0), AV.val (Value.int IntKind.i64 0)])], nx := 2 })
theorem exclude_Blocks.l0_succ (n0 k : Nat)  (v2 : Int) (v3 : Int) (v0 : Int) (v1 : Int) : exclude_Blocks.l0 (n0 + 1) k  v2 v3 (v0) (v1) = (if (v1 != 0) = true then (if v1 = 0 then none else (exclude_Blocks.l0 n0 k  v2 v3 (v1) (divF BinOp.rem IntKind.i64 v0 v1))) else (if v0 = 0 then none else (if v0 = 0 then none else some (((divF BinOp.quo IntKind.i64 v2 v0, divF BinOp.quo IntKind.i64 v3 v0), 0))))) := by kernel_rfl
theorem exclude_Blocks.j1_eq (k : Nat)   (v2 : Int) (v3 : Int) : exclude_Blocks.j1 k   (v2) (v3) = (exclude_Blocks.l0 k k  v2 v3 (v2) (v3)) := by
  unfold exclude_Blocks.j1
  rw [joinK_eq]
  kernel_rfl
theorem exclude_Blocks.j0_eq (k : Nat)  (a0 : Int × Int × Int × Int) (a1 : Int)  : exclude_Blocks.j0 k  a0 a1  = (if (a1 == 0) = true then (exclude_Blocks.j1 k   (IntKind.wrap IntKind.i64 (IntKind.wrap IntKind.i64 (a0.snd.snd.snd * IntKind.wrap IntKind.i64 (a0.snd.fst - 1)) * a0.snd.fst)) (IntKind.wrap IntKind.i64 (IntKind.wrap IntKind.i64 (a0.snd.snd.fst - 1) * a0.snd.snd.fst))) else (exclude_Blocks.j1 k   (IntKind.wrap IntKind.i64 (a0.snd.snd.snd * IntKind.wrap IntKind.i64 (a0.snd.fst - 1))) (IntKind.wrap IntKind.i64 (a0.snd.snd.fst - 1)))) := by
  unfold exclude_Blocks.j0
  rw [joinK_eq]
  kernel_rfl
noncomputable def exclude_Blocks.m0 (k : Nat) (a0 : Int × Int × Int × Int) (a1 : Int) : Option ((Int × Int) × Int) :=
  execFI Try.prog (exclude_Blocks.fns k) exclude_Blocks.lay exclude_Blocks.ann k (exclude_Blocks.s0) 64 Try.f31.results.toList (Go.Vx.bodyOf Try.f31) (a0, a1)
noncomputable def exclude_Blocks.m : (Nat) → (Int × Int × Int × Int) → (Int) → Option ((Int × Int) × Int) := hide exclude_Blocks.m0
theorem exclude_Blocks.m_hid : exclude_Blocks.m = exclude_Blocks.m0 := hide_eq _
theorem exclude_Blocks.m_eq (k : Nat) (a0 : Int × Int × Int × Int) (a1 : Int) : exclude_Blocks.m k a0 a1 = (Option.bind (exclude_Right.m k (a0.fst, a0.snd.fst, a0.snd.snd.fst, a0.snd.snd.snd)) fun (r146 : Int) => (if (r146 != 0) = true then some (((0, 0), 1)) else (if (a1 != 0) = true then (if (a1 != 1) = true then some (((0, 0), 1)) else (exclude_Blocks.j0 k  a0 a1 )) else (exclude_Blocks.j0 k  a0 a1 )))) := by
  rw [exclude_Blocks.m_hid]
  kernel_rfl
noncomputable def exclude_Blocks.sp (k : Nat) : Go.Vx.Spec := exclude_Blocks.s0.runs fun (x : exclude_Blocks.s0.argK.T) => exclude_Blocks.m k x.1 x.2
theorem exclude_Blocks.good (k : Nat) : Go.Vx.Good Try.prog 31 (exclude_Blocks.sp k) := Go.Vx.good_runsI Try.func31 (show Try.f31.body = some (Go.Vx.bodyOf Try.f31) by kernel_rfl) (by kernel_rfl) (by kernel_rfl) (exclude_Blocks.fns_good k) exclude_Blocks.lay_good (by
  intro x r h
  have h : exclude_Blocks.m k x.1 x.2 = some r := h
  rw [exclude_Blocks.m_hid] at h
  exact h)
noncomputable def exclude_divides.s0 : Go.Vx.Spec := ⟨[some 4, some 3], (.pair (K.pair (K.int IntKind.i64) (K.pair (K.int IntKind.i64) (K.pair (K.int IntKind.i64) (K.int IntKind.i64)))) (K.pair (K.int IntKind.i64) (K.pair (K.int IntKind.i64) (K.int IntKind.i64)))), [.im (K.bool)], .one (none), false, fun _ => none⟩
noncomputable def exclude_divides.fns (k : Nat) : Go.Vx.Fns := [(31, exclude_Blocks.sp k)]
theorem exclude_divides.fns_good (k : Nat) : (exclude_divides.fns k).good Try.prog := (Go.Vx.Fns.good_cons (exclude_Blocks.good k) Go.Vx.Fns.good_nil)
def exclude_divides.ann : List (Nat × Ann) := []
noncomputable def exclude_divides.lay : Lay := .nil
theorem exclude_divides.lay_good : exclude_divides.lay.good Try.prog := True.intro
noncomputable def exclude_divides.pl : Pl := ⟨0, exclude_divides.lay, exclude_divides.ann, (Go.Vx.bodyOf Try.f56)⟩
noncomputable def exclude_divides.m0 (k : Nat) (a0 : Int × Int × Int × Int) (a1 : Int × Int × Int) : Option (Bool) :=
  execFI Try.prog (exclude_divides.fns k) exclude_divides.lay exclude_divides.ann k (exclude_divides.s0) 21 Try.f56.results.toList (Go.Vx.bodyOf Try.f56) (a0, a1)
noncomputable def exclude_divides.m : (Nat) → (Int × Int × Int × Int) → (Int × Int × Int) → Option (Bool) := hide exclude_divides.m0
theorem exclude_divides.m_hid : exclude_divides.m = exclude_divides.m0 := hide_eq _
theorem exclude_divides.m_eq (k : Nat) (a0 : Int × Int × Int × Int) (a1 : Int × Int × Int) : exclude_divides.m k a0 a1 = (Option.bind (exclude_Blocks.m k (a0.fst, a0.snd.fst, a0.snd.snd.fst, a0.snd.snd.snd) a1.snd.fst) fun (r7 : (Int × Int) × Int) => (if (r7.snd == 0) = true then some (r7.fst.snd != 1) else some (false))) := by
  rw [exclude_divides.m_hid]
  kernel_rfl
noncomputable def exclude_divides.sp (k : Nat) : Go.Vx.Spec := exclude_divides.s0.runs fun (x : exclude_divides.s0.argK.T) => exclude_divides.m k x.1 x.2
theorem exclude_divides.good (k : Nat) : Go.Vx.Good Try.prog 56 (exclude_divides.sp k) := Go.Vx.good_runsI Try.func56 (show Try.f56.body = some (Go.Vx.bodyOf Try.f56) by kernel_rfl) (by kernel_rfl) (by kernel_rfl) (exclude_divides.fns_good k) exclude_divides.lay_good (by
  intro x r h
  have h : exclude_divides.m k x.1 x.2 = some r := h
  rw [exclude_divides.m_hid] at h
  exact h)
noncomputable def exclude_rules_1.s0 : Go.Vx.Spec := ⟨[some 4], (K.pair (K.int IntKind.i64) (K.pair (K.int IntKind.i64) (K.pair (K.int IntKind.i64) (K.int IntKind.i64)))), [.im (K.pair (K.int IntKind.i64) (K.pair (K.int IntKind.i64) (K.int IntKind.i64))), .im (K.bool)], .tup [some 3, none], false, fun _ => none⟩
noncomputable def exclude_rules_1.fns (k : Nat) : Go.Vx.Fns := [(56, exclude_divides.sp k)]
theorem exclude_rules_1.fns_good (k : Nat) : (exclude_rules_1.fns k).good Try.prog := (Go.Vx.Fns.good_cons (exclude_divides.good k) Go.Vx.Fns.good_nil)
def exclude_rules_1.ann : List (Nat × Ann) := [(1000002, ⟨rg [(0, 1), (3, 3), (7, 10)], []⟩)]
noncomputable def exclude_rules_1.lay : Lay := .nil
theorem exclude_rules_1.lay_good : exclude_rules_1.lay.good Try.prog := True.intro
noncomputable def exclude_rules_1.pl : Pl := ⟨0, exclude_rules_1.lay, exclude_rules_1.ann, (Go.Vx.bodyOf Try.f57)⟩
noncomputable def exclude_rules_1.l0 (n_ k : Nat)  (a0 : Int × Int × Int × Int) (v0 : Int) : Option ((Int × Int × Int) × Bool) :=
  loopK n_ (execP Try.prog (exclude_rules_1.fns k) k (plC [1, 0, 1, 0, 0] exclude_rules_1.pl)) (nmP (plC [1, 0, 1, 0, 0] exclude_rules_1.pl)) ({ tmps := [AV.dead, AV.ptr 0 0, AV.ptr 1 0] ++ dz 3 ++ [AV.val (Value.int IntKind.i64 v0)] ++ dz 10, ents := [(0, Ent.box 24 [AV.val (Value.int IntKind.i64 a0.fst), AV.val (Value.int IntKind.i64 a0.snd.fst), AV.val (Value.int IntKind.i64 a0.snd.snd.fst), AV.val (Value.int IntKind.i64 a0.snd.snd.snd)]), (1, Ent.box 26 [AV.val (Value.int IntKind.i64 0), AV.val (Value.int IntKind.i64 0), AV.val (Value.int IntKind.i64 0)])], nx := 2 }) (contP Try.prog (exclude_rules_1.fns k) k [1, 0, 1, 0] [] exclude_rules_1.pl (finK Try.prog (exclude_rules_1.s0) Try.f57.results.toList))
theorem exclude_rules_1.l0_succ (n0 k : Nat)  (a0 : Int × Int × Int × Int) (v0 : Int) : exclude_rules_1.l0 (n0 + 1) k  a0 (v0) = (if (decide (v0 < 2)) = true then (Option.bind (exclude_divides.m k (a0.fst, a0.snd.fst, a0.snd.snd.fst, a0.snd.snd.snd) (1, v0, 0)) fun (r46 : Bool) => (if (r46) = true then some (((1, v0, 0), true)) else (exclude_rules_1.l0 n0 k  a0 (IntKind.wrap IntKind.i64 (v0 + 1))))) else some (((0, 0, 0), false))) := by kernel_rfl
noncomputable def exclude_rules_1.m0 (k : Nat) (a0 : Int × Int × Int × Int) : Option ((Int × Int × Int) × Bool) :=
  execFI Try.prog (exclude_rules_1.fns k) exclude_rules_1.lay exclude_rules_1.ann k (exclude_rules_1.s0) 17 Try.f57.results.toList (Go.Vx.bodyOf Try.f57) a0
noncomputable def exclude_rules_1.m : (Nat) → (Int × Int × Int × Int) → Option ((Int × Int × Int) × Bool) := hide exclude_rules_1.m0
theorem exclude_rules_1.m_hid : exclude_rules_1.m = exclude_rules_1.m0 := hide_eq _
theorem exclude_rules_1.m_eq (k : Nat) (a0 : Int × Int × Int × Int) : exclude_rules_1.m k a0 = (exclude_rules_1.l0 k k  a0 (0)) := by
  rw [exclude_rules_1.m_hid]
  kernel_rfl
noncomputable def exclude_rules_1.sp (k : Nat) : Go.Vx.Spec := exclude_rules_1.s0.runs fun (x : exclude_rules_1.s0.argK.T) => exclude_rules_1.m k x
theorem exclude_rules_1.good (k : Nat) : Go.Vx.Good Try.prog 57 (exclude_rules_1.sp k) := Go.Vx.good_runsI Try.func57 (show Try.f57.body = some (Go.Vx.bodyOf Try.f57) by kernel_rfl) (by kernel_rfl) (by kernel_rfl) (exclude_rules_1.fns_good k) exclude_rules_1.lay_good (by
  intro x r h
  have h : exclude_rules_1.m k x = some r := h
  rw [exclude_rules_1.m_hid] at h
  exact h)
noncomputable def exclude_excess.s0 : Go.Vx.Spec := ⟨[some 4], (K.pair (K.int IntKind.i64) (K.pair (K.int IntKind.i64) (K.pair (K.int IntKind.i64) (K.int IntKind.i64)))), [.im (K.int IntKind.i64)], .one (none), false, fun _ => none⟩
noncomputable def exclude_excess.fns (k : Nat) : Go.Vx.Fns := []
theorem exclude_excess.fns_good (k : Nat) : (exclude_excess.fns k).good Try.prog := Go.Vx.Fns.good_nil
def exclude_excess.ann : List (Nat × Ann) := []
noncomputable def exclude_excess.lay : Lay := .nil
theorem exclude_excess.lay_good : exclude_excess.lay.good Try.prog := True.intro
noncomputable def exclude_excess.pl : Pl := ⟨0, exclude_excess.lay, exclude_excess.ann, (Go.Vx.bodyOf Try.f60)⟩
noncomputable def exclude_excess.m0 (k : Nat) (a0 : Int × Int × Int × Int) : Option (Int) :=
  execFI Try.prog (exclude_excess.fns k) exclude_excess.lay exclude_excess.ann k (exclude_excess.s0) 16 Try.f60.results.toList (Go.Vx.bodyOf Try.f60) a0
noncomputable def exclude_excess.m : (Nat) → (Int × Int × Int × Int) → Option (Int) := hide exclude_excess.m0
theorem exclude_excess.m_hid : exclude_excess.m = exclude_excess.m0 := hide_eq _
theorem exclude_excess.m_eq (k : Nat) (a0 : Int × Int × Int × Int) : exclude_excess.m k a0 = some (IntKind.wrap IntKind.i64 (IntKind.wrap IntKind.i64 (a0.snd.snd.snd * IntKind.wrap IntKind.i64 (a0.snd.fst - 1)) - IntKind.wrap IntKind.i64 (a0.snd.snd.fst * IntKind.wrap IntKind.i64 (a0.snd.snd.fst - 1)))) := by
  rw [exclude_excess.m_hid]
  kernel_rfl
noncomputable def exclude_excess.sp (k : Nat) : Go.Vx.Spec := exclude_excess.s0.runs fun (x : exclude_excess.s0.argK.T) => exclude_excess.m k x
theorem exclude_excess.good (k : Nat) : Go.Vx.Good Try.prog 60 (exclude_excess.sp k) := Go.Vx.good_runsI Try.func60 (show Try.f60.body = some (Go.Vx.bodyOf Try.f60) by kernel_rfl) (by kernel_rfl) (by kernel_rfl) (exclude_excess.fns_good k) exclude_excess.lay_good (by
  intro x r h
  have h : exclude_excess.m k x = some r := h
  rw [exclude_excess.m_hid] at h
  exact h)
noncomputable def exclude_rules_2.s0 : Go.Vx.Spec := ⟨[some 4], (K.pair (K.int IntKind.i64) (K.pair (K.int IntKind.i64) (K.pair (K.int IntKind.i64) (K.int IntKind.i64)))), [.im (K.bool)], .one (none), false, fun _ => none⟩
noncomputable def exclude_rules_2.fns (k : Nat) : Go.Vx.Fns := [(60, exclude_excess.sp k)]
theorem exclude_rules_2.fns_good (k : Nat) : (exclude_rules_2.fns k).good Try.prog := (Go.Vx.Fns.good_cons (exclude_excess.good k) Go.Vx.Fns.good_nil)
def exclude_rules_2.ann : List (Nat × Ann) := []
noncomputable def exclude_rules_2.lay : Lay := .nil
theorem exclude_rules_2.lay_good : exclude_rules_2.lay.good Try.prog := True.intro
noncomputable def exclude_rules_2.pl : Pl := ⟨0, exclude_rules_2.lay, exclude_rules_2.ann, (Go.Vx.bodyOf Try.f59)⟩
noncomputable def exclude_rules_2.m0 (k : Nat) (a0 : Int × Int × Int × Int) : Option (Bool) :=
  execFI Try.prog (exclude_rules_2.fns k) exclude_rules_2.lay exclude_rules_2.ann k (exclude_rules_2.s0) 6 Try.f59.results.toList (Go.Vx.bodyOf Try.f59) a0
noncomputable def exclude_rules_2.m : (Nat) → (Int × Int × Int × Int) → Option (Bool) := hide exclude_rules_2.m0
theorem exclude_rules_2.m_hid : exclude_rules_2.m = exclude_rules_2.m0 := hide_eq _
theorem exclude_rules_2.m_eq (k : Nat) (a0 : Int × Int × Int × Int) : exclude_rules_2.m k a0 = (Option.bind (exclude_excess.m k (a0.fst, a0.snd.fst, a0.snd.snd.fst, a0.snd.snd.snd)) fun (r4 : Int) => some (decide (r4 < 0))) := by
  rw [exclude_rules_2.m_hid]
  kernel_rfl
noncomputable def exclude_rules_2.sp (k : Nat) : Go.Vx.Spec := exclude_rules_2.s0.runs fun (x : exclude_rules_2.s0.argK.T) => exclude_rules_2.m k x
theorem exclude_rules_2.good (k : Nat) : Go.Vx.Good Try.prog 59 (exclude_rules_2.sp k) := Go.Vx.good_runsI Try.func59 (show Try.f59.body = some (Go.Vx.bodyOf Try.f59) by kernel_rfl) (by kernel_rfl) (by kernel_rfl) (exclude_rules_2.fns_good k) exclude_rules_2.lay_good (by
  intro x r h
  have h : exclude_rules_2.m k x = some r := h
  rw [exclude_rules_2.m_hid] at h
  exact h)
noncomputable def exclude_rules_3.s0 : Go.Vx.Spec := ⟨[some 4], (K.pair (K.int IntKind.i64) (K.pair (K.int IntKind.i64) (K.pair (K.int IntKind.i64) (K.int IntKind.i64)))), [.im (K.bool)], .one (none), false, fun _ => none⟩
noncomputable def exclude_rules_3.fns (k : Nat) : Go.Vx.Fns := [(60, exclude_excess.sp k), (62, local_Square.sp k)]
theorem exclude_rules_3.fns_good (k : Nat) : (exclude_rules_3.fns k).good Try.prog := (Go.Vx.Fns.good_cons (exclude_excess.good k) (Go.Vx.Fns.good_cons (local_Square.good k) Go.Vx.Fns.good_nil))
def exclude_rules_3.ann : List (Nat × Ann) := []
noncomputable def exclude_rules_3.lay : Lay := .nil
theorem exclude_rules_3.lay_good : exclude_rules_3.lay.good Try.prog := True.intro
noncomputable def exclude_rules_3.pl : Pl := ⟨0, exclude_rules_3.lay, exclude_rules_3.ann, (Go.Vx.bodyOf Try.f61)⟩
noncomputable def exclude_rules_3.m0 (k : Nat) (a0 : Int × Int × Int × Int) : Option (Bool) :=
  execFI Try.prog (exclude_rules_3.fns k) exclude_rules_3.lay exclude_rules_3.ann k (exclude_rules_3.s0) 21 Try.f61.results.toList (Go.Vx.bodyOf Try.f61) a0
noncomputable def exclude_rules_3.m : (Nat) → (Int × Int × Int × Int) → Option (Bool) := hide exclude_rules_3.m0
theorem exclude_rules_3.m_hid : exclude_rules_3.m = exclude_rules_3.m0 := hide_eq _
theorem exclude_rules_3.m_eq (k : Nat) (a0 : Int × Int × Int × Int) : exclude_rules_3.m k a0 = (Option.bind (exclude_excess.m k (a0.fst, a0.snd.fst, a0.snd.snd.fst, a0.snd.snd.snd)) fun (r4 : Int) => (if (r4 == 0) = true then (if (divF BinOp.rem IntKind.i64 a0.snd.fst 2 == 0) = true then (Option.bind (local_Square.m k (IntKind.wrap IntKind.i64 (a0.snd.snd.fst - a0.snd.snd.snd))) fun (r31 : Bool) => some (!r31)) else some (false)) else some (false))) := by
  rw [exclude_rules_3.m_hid]
  kernel_rfl
noncomputable def exclude_rules_3.sp (k : Nat) : Go.Vx.Spec := exclude_rules_3.s0.runs fun (x : exclude_rules_3.s0.argK.T) => exclude_rules_3.m k x
theorem exclude_rules_3.good (k : Nat) : Go.Vx.Good Try.prog 61 (exclude_rules_3.sp k) := Go.Vx.good_runsI Try.func61 (show Try.f61.body = some (Go.Vx.bodyOf Try.f61) by kernel_rfl) (by kernel_rfl) (by kernel_rfl) (exclude_rules_3.fns_good k) exclude_rules_3.lay_good (by
  intro x r h
  have h : exclude_rules_3.m k x = some r := h
  rw [exclude_rules_3.m_hid] at h
  exact h)
noncomputable def exclude_odd.s0 : Go.Vx.Spec := ⟨[some 4], (K.pair (K.int IntKind.i64) (K.pair (K.int IntKind.i64) (K.pair (K.int IntKind.i64) (K.int IntKind.i64)))), [.im (K.bool)], .one (none), false, fun _ => none⟩
noncomputable def exclude_odd.fns (k : Nat) : Go.Vx.Fns := [(60, exclude_excess.sp k)]
theorem exclude_odd.fns_good (k : Nat) : (exclude_odd.fns k).good Try.prog := (Go.Vx.Fns.good_cons (exclude_excess.good k) Go.Vx.Fns.good_nil)
def exclude_odd.ann : List (Nat × Ann) := []
noncomputable def exclude_odd.lay : Lay := .nil
theorem exclude_odd.lay_good : exclude_odd.lay.good Try.prog := True.intro
noncomputable def exclude_odd.pl : Pl := ⟨0, exclude_odd.lay, exclude_odd.ann, (Go.Vx.bodyOf Try.f64)⟩
noncomputable def exclude_odd.m0 (k : Nat) (a0 : Int × Int × Int × Int) : Option (Bool) :=
  execFI Try.prog (exclude_odd.fns k) exclude_odd.lay exclude_odd.ann k (exclude_odd.s0) 12 Try.f64.results.toList (Go.Vx.bodyOf Try.f64) a0
noncomputable def exclude_odd.m : (Nat) → (Int × Int × Int × Int) → Option (Bool) := hide exclude_odd.m0
theorem exclude_odd.m_hid : exclude_odd.m = exclude_odd.m0 := hide_eq _
theorem exclude_odd.m_eq (k : Nat) (a0 : Int × Int × Int × Int) : exclude_odd.m k a0 = (Option.bind (exclude_excess.m k (a0.fst, a0.snd.fst, a0.snd.snd.fst, a0.snd.snd.snd)) fun (r4 : Int) => (if (r4 == 0) = true then some (divF BinOp.rem IntKind.i64 a0.snd.fst 2 == 1) else some (false))) := by
  rw [exclude_odd.m_hid]
  kernel_rfl
noncomputable def exclude_odd.sp (k : Nat) : Go.Vx.Spec := exclude_odd.s0.runs fun (x : exclude_odd.s0.argK.T) => exclude_odd.m k x
theorem exclude_odd.good (k : Nat) : Go.Vx.Good Try.prog 64 (exclude_odd.sp k) := Go.Vx.good_runsI Try.func64 (show Try.f64.body = some (Go.Vx.bodyOf Try.f64) by kernel_rfl) (by kernel_rfl) (by kernel_rfl) (exclude_odd.fns_good k) exclude_odd.lay_good (by
  intro x r h
  have h : exclude_odd.m k x = some r := h
  rw [exclude_odd.m_hid] at h
  exact h)
noncomputable def exclude_sides.s0 : Go.Vx.Spec := ⟨[some 4], (K.pair (K.int IntKind.i64) (K.pair (K.int IntKind.i64) (K.pair (K.int IntKind.i64) (K.int IntKind.i64)))), [.im (K.int IntKind.i64), .im (K.int IntKind.i64)], .tup [none, none], false, fun _ => none⟩
noncomputable def exclude_sides.fns (k : Nat) : Go.Vx.Fns := []
theorem exclude_sides.fns_good (k : Nat) : (exclude_sides.fns k).good Try.prog := Go.Vx.Fns.good_nil
def exclude_sides.ann : List (Nat × Ann) := []
noncomputable def exclude_sides.lay : Lay := .nil
theorem exclude_sides.lay_good : exclude_sides.lay.good Try.prog := True.intro
noncomputable def exclude_sides.pl : Pl := ⟨0, exclude_sides.lay, exclude_sides.ann, (Go.Vx.bodyOf Try.f65)⟩
noncomputable def exclude_sides.m0 (k : Nat) (a0 : Int × Int × Int × Int) : Option (Int × Int) :=
  execFI Try.prog (exclude_sides.fns k) exclude_sides.lay exclude_sides.ann k (exclude_sides.s0) 23 Try.f65.results.toList (Go.Vx.bodyOf Try.f65) a0
noncomputable def exclude_sides.m : (Nat) → (Int × Int × Int × Int) → Option (Int × Int) := hide exclude_sides.m0
theorem exclude_sides.m_hid : exclude_sides.m = exclude_sides.m0 := hide_eq _
theorem exclude_sides.m_eq (k : Nat) (a0 : Int × Int × Int × Int) : exclude_sides.m k a0 = (if (divF BinOp.rem IntKind.i64 a0.snd.fst 4 == 3) = true then some ((IntKind.wrap IntKind.i64 (a0.snd.snd.fst - a0.snd.snd.snd), IntKind.wrap IntKind.i64 (0 - a0.snd.snd.snd))) else some ((IntKind.wrap IntKind.i64 (a0.snd.snd.fst - a0.snd.snd.snd), a0.snd.snd.snd))) := by
  rw [exclude_sides.m_hid]
  kernel_rfl
noncomputable def exclude_sides.sp (k : Nat) : Go.Vx.Spec := exclude_sides.s0.runs fun (x : exclude_sides.s0.argK.T) => exclude_sides.m k x
theorem exclude_sides.good (k : Nat) : Go.Vx.Good Try.prog 65 (exclude_sides.sp k) := Go.Vx.good_runsI Try.func65 (show Try.f65.body = some (Go.Vx.bodyOf Try.f65) by kernel_rfl) (by kernel_rfl) (by kernel_rfl) (exclude_sides.fns_good k) exclude_sides.lay_good (by
  intro x r h
  have h : exclude_sides.m k x = some r := h
  rw [exclude_sides.m_hid] at h
  exact h)
noncomputable def exclude_rules_4.s0 : Go.Vx.Spec := ⟨[some 4, some 3], (.pair (K.pair (K.int IntKind.i64) (K.pair (K.int IntKind.i64) (K.pair (K.int IntKind.i64) (K.int IntKind.i64)))) (K.pair (K.int IntKind.i64) (K.pair (K.int IntKind.i64) (K.int IntKind.i64)))), [.im (K.bool)], .one (none), false, fun _ => none⟩
noncomputable def exclude_rules_4.fns (k : Nat) : Go.Vx.Fns := [(64, exclude_odd.sp k), (65, exclude_sides.sp k), (25, local_Hilbert.sp k)]
theorem exclude_rules_4.fns_good (k : Nat) : (exclude_rules_4.fns k).good Try.prog := (Go.Vx.Fns.good_cons (exclude_odd.good k) (Go.Vx.Fns.good_cons (exclude_sides.good k) (Go.Vx.Fns.good_cons (local_Hilbert.good k) Go.Vx.Fns.good_nil)))
def exclude_rules_4.ann : List (Nat × Ann) := []
noncomputable def exclude_rules_4.lay : Lay := .nil
theorem exclude_rules_4.lay_good : exclude_rules_4.lay.good Try.prog := True.intro
noncomputable def exclude_rules_4.pl : Pl := ⟨0, exclude_rules_4.lay, exclude_rules_4.ann, (Go.Vx.bodyOf Try.f63)⟩
noncomputable def exclude_rules_4.m0 (k : Nat) (a0 : Int × Int × Int × Int) (a1 : Int × Int × Int) : Option (Bool) :=
  execFI Try.prog (exclude_rules_4.fns k) exclude_rules_4.lay exclude_rules_4.ann k (exclude_rules_4.s0) 31 Try.f63.results.toList (Go.Vx.bodyOf Try.f63) (a0, a1)
noncomputable def exclude_rules_4.m : (Nat) → (Int × Int × Int × Int) → (Int × Int × Int) → Option (Bool) := hide exclude_rules_4.m0
theorem exclude_rules_4.m_hid : exclude_rules_4.m = exclude_rules_4.m0 := hide_eq _
theorem exclude_rules_4.m_eq (k : Nat) (a0 : Int × Int × Int × Int) (a1 : Int × Int × Int) : exclude_rules_4.m k a0 a1 = (Option.bind (exclude_odd.m k (a0.fst, a0.snd.fst, a0.snd.snd.fst, a0.snd.snd.snd)) fun (r5 : Bool) => (if (!r5) = true then some (false) else (Option.bind (exclude_sides.m k (a0.fst, a0.snd.fst, a0.snd.snd.fst, a0.snd.snd.snd)) fun (r11 : Int × Int) => (Option.bind (local_Hilbert.m k r11.fst r11.snd a1.snd.snd) fun (r22 : Int × Int) => (if (r22.snd == 0) = true then some (r22.fst == -1) else some (false)))))) := by
  rw [exclude_rules_4.m_hid]
  kernel_rfl
noncomputable def exclude_rules_4.sp (k : Nat) : Go.Vx.Spec := exclude_rules_4.s0.runs fun (x : exclude_rules_4.s0.argK.T) => exclude_rules_4.m k x.1 x.2
theorem exclude_rules_4.good (k : Nat) : Go.Vx.Good Try.prog 63 (exclude_rules_4.sp k) := Go.Vx.good_runsI Try.func63 (show Try.f63.body = some (Go.Vx.bodyOf Try.f63) by kernel_rfl) (by kernel_rfl) (by kernel_rfl) (exclude_rules_4.fns_good k) exclude_rules_4.lay_good (by
  intro x r h
  have h : exclude_rules_4.m k x.1 x.2 = some r := h
  rw [exclude_rules_4.m_hid] at h
  exact h)
noncomputable def exclude_rules_5.s0 : Go.Vx.Spec := ⟨[some 4], (K.pair (K.int IntKind.i64) (K.pair (K.int IntKind.i64) (K.pair (K.int IntKind.i64) (K.int IntKind.i64)))), [.im (K.pair (K.int IntKind.i64) (K.pair (K.int IntKind.i64) (K.int IntKind.i64))), .im (K.bool)], .tup [some 3, none], false, fun _ => none⟩
noncomputable def exclude_rules_5.fns (k : Nat) : Go.Vx.Fns := [(64, exclude_odd.sp k), (65, exclude_sides.sp k), (26, local_Solve.sp k)]
theorem exclude_rules_5.fns_good (k : Nat) : (exclude_rules_5.fns k).good Try.prog := (Go.Vx.Fns.good_cons (exclude_odd.good k) (Go.Vx.Fns.good_cons (exclude_sides.good k) (Go.Vx.Fns.good_cons (local_Solve.good k) Go.Vx.Fns.good_nil)))
def exclude_rules_5.ann : List (Nat × Ann) := []
noncomputable def exclude_rules_5.lay : Lay := .nil
theorem exclude_rules_5.lay_good : exclude_rules_5.lay.good Try.prog := True.intro
noncomputable def exclude_rules_5.pl : Pl := ⟨0, exclude_rules_5.lay, exclude_rules_5.ann, (Go.Vx.bodyOf Try.f66)⟩
noncomputable def exclude_rules_5.m0 (k : Nat) (a0 : Int × Int × Int × Int) : Option ((Int × Int × Int) × Bool) :=
  execFI Try.prog (exclude_rules_5.fns k) exclude_rules_5.lay exclude_rules_5.ann k (exclude_rules_5.s0) 33 Try.f66.results.toList (Go.Vx.bodyOf Try.f66) a0
noncomputable def exclude_rules_5.m : (Nat) → (Int × Int × Int × Int) → Option ((Int × Int × Int) × Bool) := hide exclude_rules_5.m0
theorem exclude_rules_5.m_hid : exclude_rules_5.m = exclude_rules_5.m0 := hide_eq _
theorem exclude_rules_5.m_eq (k : Nat) (a0 : Int × Int × Int × Int) : exclude_rules_5.m k a0 = (Option.bind (exclude_odd.m k (a0.fst, a0.snd.fst, a0.snd.snd.fst, a0.snd.snd.snd)) fun (r5 : Bool) => (if (!r5) = true then some (((0, 0, 0), false)) else (Option.bind (exclude_sides.m k (a0.fst, a0.snd.fst, a0.snd.snd.fst, a0.snd.snd.snd)) fun (r13 : Int × Int) => (Option.bind (local_Solve.m k r13.fst r13.snd) fun (r22 : (Bool × (Int × Int × Int) × Int) × Int) => (if (r22.snd == 0) = true then some (((4, 0, r22.fst.snd.snd), !r22.fst.fst)) else some (((4, 0, r22.fst.snd.snd), false))))))) := by
  rw [exclude_rules_5.m_hid]
  kernel_rfl
noncomputable def exclude_rules_5.sp (k : Nat) : Go.Vx.Spec := exclude_rules_5.s0.runs fun (x : exclude_rules_5.s0.argK.T) => exclude_rules_5.m k x
theorem exclude_rules_5.good (k : Nat) : Go.Vx.Good Try.prog 66 (exclude_rules_5.sp k) := Go.Vx.good_runsI Try.func66 (show Try.f66.body = some (Go.Vx.bodyOf Try.f66) by kernel_rfl) (by kernel_rfl) (by kernel_rfl) (exclude_rules_5.fns_good k) exclude_rules_5.lay_good (by
  intro x r h
  have h : exclude_rules_5.m k x = some r := h
  rw [exclude_rules_5.m_hid] at h
  exact h)
noncomputable def exclude_Why.s0 : Go.Vx.Spec := ⟨[some 4], (K.pair (K.int IntKind.i64) (K.pair (K.int IntKind.i64) (K.pair (K.int IntKind.i64) (K.int IntKind.i64)))), [.im (K.pair (K.int IntKind.i64) (K.pair (K.int IntKind.i64) (K.int IntKind.i64))), .im (K.int IntKind.i64)], .tup [some 3, none], false, fun _ => none⟩
noncomputable def exclude_Why.fns (k : Nat) : Go.Vx.Fns := [(12, exclude_Right.sp k), (56, exclude_divides.sp k), (57, exclude_rules_1.sp k), (59, exclude_rules_2.sp k), (61, exclude_rules_3.sp k), (63, exclude_rules_4.sp k), (66, exclude_rules_5.sp k)]
theorem exclude_Why.fns_good (k : Nat) : (exclude_Why.fns k).good Try.prog := (Go.Vx.Fns.good_cons (exclude_Right.good k) (Go.Vx.Fns.good_cons (exclude_divides.good k) (Go.Vx.Fns.good_cons (exclude_rules_1.good k) (Go.Vx.Fns.good_cons (exclude_rules_2.good k) (Go.Vx.Fns.good_cons (exclude_rules_3.good k) (Go.Vx.Fns.good_cons (exclude_rules_4.good k) (Go.Vx.Fns.good_cons (exclude_rules_5.good k) Go.Vx.Fns.good_nil)))))))
def exclude_Why.ann : List (Nat × Ann) := [(1000005, ⟨rg [(0, 1), (3, 12), (18, 14)], []⟩)]
def exclude_Why.ann1 : List (Nat × Ann) := []
def exclude_Why.ann2 : List (Nat × Ann) := []
def exclude_Why.ann3 : List (Nat × Ann) := []
def exclude_Why.ann4 : List (Nat × Ann) := []
noncomputable def exclude_Why.lay : Lay := (.cons 4 0 33 [0, 3, 4, 5, 6, 7, 8, 9, 10, 11, 12, 13, 14, 15, 16, 17, 18, 19, 20, 21, 22, 23, 24, 25, 26, 27, 28, 29, 30, 31] Try.f33 exclude_Why.ann1 (.cons 1 2 58 [0, 2, 3, 4, 5, 6, 7] Try.f58 exclude_Why.ann2 .nil (.cons 1 4 58 [0, 2, 4, 5, 6, 7] Try.f58 exclude_Why.ann3 .nil .nil)) (.cons 7 3 82 [0, 3, 4, 5, 6, 7, 8, 9, 10, 11, 12, 13, 14, 18, 19, 20, 21, 22, 23, 24, 25, 26, 27, 28, 29, 30, 31] Try.f82 exclude_Why.ann4 .nil .nil))
theorem exclude_Why.lay_good : exclude_Why.lay.good Try.prog := ⟨⟨Try.func33, by kernel_rfl, by kernel_rfl⟩, ⟨⟨Try.func58, by kernel_rfl, by kernel_rfl⟩, True.intro, ⟨⟨Try.func58, by kernel_rfl, by kernel_rfl⟩, True.intro, True.intro⟩⟩, ⟨⟨Try.func82, by kernel_rfl, by kernel_rfl⟩, True.intro, True.intro⟩⟩
noncomputable def exclude_Why.pl : Pl := ⟨0, exclude_Why.lay, exclude_Why.ann, (Go.Vx.bodyOf Try.f30)⟩
noncomputable def exclude_Why.l0 (n_ k : Nat)  (a0 : Int × Int × Int × Int) (v1 : Int) : Option ((Int × Int × Int) × Int) :=
  loopK n_ (execP Try.prog (exclude_Why.fns k) k (plC [1, 1, 0, 1, 0, 0] exclude_Why.pl)) (nmP (plC [1, 1, 0, 1, 0, 0] exclude_Why.pl)) ({ tmps := [AV.dead, AV.ptr 0 0, AV.ptr 1 0] ++ dz 12 ++ [AV.cs 4 2 [AV.fn 56 [], AV.fn 57 [], AV.fn 81 [AV.ptr 2 0], AV.fn 82 [AV.ptr 3 0, AV.ptr 2 0], AV.fn 81 [AV.ptr 4 0], AV.fn 82 [AV.ptr 5 0, AV.ptr 4 0], AV.fn 63 [], AV.fn 66 []], AV.val (Value.int IntKind.i64 (↑4 : Int)), AV.val (Value.int IntKind.i64 v1)] ++ dz 14, ents := [(0, Ent.box 24 [AV.val (Value.int IntKind.i64 a0.fst), AV.val (Value.int IntKind.i64 a0.snd.fst), AV.val (Value.int IntKind.i64 a0.snd.snd.fst), AV.val (Value.int IntKind.i64 a0.snd.snd.snd)]), (1, Ent.box 26 [AV.val (Value.int IntKind.i64 0), AV.val (Value.int IntKind.i64 0), AV.val (Value.int IntKind.i64 0)]), (2, Ent.box 51 [AV.fn 59 []]), (3, Ent.box 26 [AV.val (Value.int IntKind.i64 2), AV.val (Value.int IntKind.i64 0), AV.val (Value.int IntKind.i64 0)]), (4, Ent.box 51 [AV.fn 61 []]), (5, Ent.box 26 [AV.val (Value.int IntKind.i64 3), AV.val (Value.int IntKind.i64 0), AV.val (Value.int IntKind.i64 0)])], nx := 6 }) (contP Try.prog (exclude_Why.fns k) k [1, 1, 0, 1, 0] [] exclude_Why.pl (finK Try.prog (exclude_Why.s0) Try.f30.results.toList))
theorem exclude_Why.l0_succ (n0 k : Nat)  (a0 : Int × Int × Int × Int) (v1 : Int) : exclude_Why.l0 (n0 + 1) k  a0 (v1) = (if (decide (v1 < (↑4 : Int))) = true then (if v1 = (↑0 : Int) then (Option.bind (exclude_rules_1.m k (a0.fst, a0.snd.fst, a0.snd.snd.fst, a0.snd.snd.snd)) fun (r181 : (Int × Int × Int) × Bool) => (if (r181.snd) = true then some (((r181.fst.fst, r181.fst.snd.fst, r181.fst.snd.snd), 0)) else (exclude_Why.l0 n0 k  a0 (IntKind.wrap IntKind.i64 (v1 + 1))))) else (if v1 = (↑(0 + 1) : Int) then (Option.bind (exclude_rules_2.m k (a0.fst, a0.snd.fst, a0.snd.snd.fst, a0.snd.snd.snd)) fun (r210 : Bool) => (if (r210) = true then some (((2, 0, 0), 0)) else (exclude_Why.l0 n0 k  a0 (IntKind.wrap IntKind.i64 (v1 + 1))))) else (if v1 = (↑(0 + 1 + 1) : Int) then (Option.bind (exclude_rules_3.m k (a0.fst, a0.snd.fst, a0.snd.snd.fst, a0.snd.snd.snd)) fun (r242 : Bool) => (if (r242) = true then some (((3, 0, 0), 0)) else (exclude_Why.l0 n0 k  a0 (IntKind.wrap IntKind.i64 (v1 + 1))))) else (if v1 = (↑(0 + 1 + 1 + 1) : Int) then (Option.bind (exclude_rules_5.m k (a0.fst, a0.snd.fst, a0.snd.snd.fst, a0.snd.snd.snd)) fun (r268 : (Int × Int × Int) × Bool) => (if (r268.snd) = true then some (((r268.fst.fst, r268.fst.snd.fst, r268.fst.snd.snd), 0)) else (exclude_Why.l0 n0 k  a0 (IntKind.wrap IntKind.i64 (v1 + 1))))) else none)))) else some (((0, 0, 0), 4))) := by kernel_rfl
noncomputable def exclude_Why.m0 (k : Nat) (a0 : Int × Int × Int × Int) : Option ((Int × Int × Int) × Int) :=
  execFI Try.prog (exclude_Why.fns k) exclude_Why.lay exclude_Why.ann k (exclude_Why.s0) 32 Try.f30.results.toList (Go.Vx.bodyOf Try.f30) a0
noncomputable def exclude_Why.m : (Nat) → (Int × Int × Int × Int) → Option ((Int × Int × Int) × Int) := hide exclude_Why.m0
theorem exclude_Why.m_hid : exclude_Why.m = exclude_Why.m0 := hide_eq _
theorem exclude_Why.m_eq (k : Nat) (a0 : Int × Int × Int × Int) : exclude_Why.m k a0 = (Option.bind (exclude_Right.m k (a0.fst, a0.snd.fst, a0.snd.snd.fst, a0.snd.snd.snd)) fun (r5 : Int) => (if (r5 != 0) = true then some (((0, 0, 0), r5)) else (exclude_Why.l0 k k  a0 (0)))) := by
  rw [exclude_Why.m_hid]
  kernel_rfl
noncomputable def exclude_Why.sp (k : Nat) : Go.Vx.Spec := exclude_Why.s0.runs fun (x : exclude_Why.s0.argK.T) => exclude_Why.m k x
theorem exclude_Why.good (k : Nat) : Go.Vx.Good Try.prog 30 (exclude_Why.sp k) := Go.Vx.good_runsI Try.func30 (show Try.f30.body = some (Go.Vx.bodyOf Try.f30) by kernel_rfl) (by kernel_rfl) (by kernel_rfl) (exclude_Why.fns_good k) exclude_Why.lay_good (by
  intro x r h
  have h : exclude_Why.m k x = some r := h
  rw [exclude_Why.m_hid] at h
  exact h)
noncomputable def exclude_Check.s0 : Go.Vx.Spec := ⟨[some 4, some 3], (.pair (K.pair (K.int IntKind.i64) (K.pair (K.int IntKind.i64) (K.pair (K.int IntKind.i64) (K.int IntKind.i64)))) (K.pair (K.int IntKind.i64) (K.pair (K.int IntKind.i64) (K.int IntKind.i64)))), [.im (K.int IntKind.i64)], .one (none), false, fun _ => none⟩
noncomputable def exclude_Check.fns (k : Nat) : Go.Vx.Fns := [(12, exclude_Right.sp k), (56, exclude_divides.sp k), (57, exclude_rules_1.sp k), (59, exclude_rules_2.sp k), (61, exclude_rules_3.sp k), (63, exclude_rules_4.sp k), (66, exclude_rules_5.sp k)]
theorem exclude_Check.fns_good (k : Nat) : (exclude_Check.fns k).good Try.prog := (Go.Vx.Fns.good_cons (exclude_Right.good k) (Go.Vx.Fns.good_cons (exclude_divides.good k) (Go.Vx.Fns.good_cons (exclude_rules_1.good k) (Go.Vx.Fns.good_cons (exclude_rules_2.good k) (Go.Vx.Fns.good_cons (exclude_rules_3.good k) (Go.Vx.Fns.good_cons (exclude_rules_4.good k) (Go.Vx.Fns.good_cons (exclude_rules_5.good k) Go.Vx.Fns.good_nil)))))))
def exclude_Check.ann : List (Nat × Ann) := []
def exclude_Check.ann1 : List (Nat × Ann) := []
def exclude_Check.ann2 : List (Nat × Ann) := []
def exclude_Check.ann3 : List (Nat × Ann) := []
def exclude_Check.ann4 : List (Nat × Ann) := []
noncomputable def exclude_Check.lay : Lay := (.cons 4 0 33 [0, 1, 4, 5, 6, 7, 8, 9, 10, 11, 12, 13, 14, 15, 16, 17, 18, 19, 20, 21, 22, 23, 24, 25, 26, 27, 28, 29, 30, 31, 32, 33, 34, 35] Try.f33 exclude_Check.ann1 (.cons 1 2 58 [0, 2, 3, 4, 5, 6, 7] Try.f58 exclude_Check.ann2 .nil (.cons 1 4 58 [0, 2, 4, 5, 6, 7] Try.f58 exclude_Check.ann3 .nil .nil)) (.cons 5 20 81 [0, 1, 2, 3, 4, 5, 6, 7, 8, 9, 10, 11, 12, 13, 14, 15, 16, 17, 18, 19, 20, 21, 22, 24, 25, 26, 27, 28, 29, 30, 31, 32, 33, 34, 35] Try.f81 exclude_Check.ann4 .nil .nil))
theorem exclude_Check.lay_good : exclude_Check.lay.good Try.prog := ⟨⟨Try.func33, by kernel_rfl, by kernel_rfl⟩, ⟨⟨Try.func58, by kernel_rfl, by kernel_rfl⟩, True.intro, ⟨⟨Try.func58, by kernel_rfl, by kernel_rfl⟩, True.intro, True.intro⟩⟩, ⟨⟨Try.func81, by kernel_rfl, by kernel_rfl⟩, True.intro, True.intro⟩⟩
noncomputable def exclude_Check.pl : Pl := ⟨0, exclude_Check.lay, exclude_Check.ann, (Go.Vx.bodyOf Try.f17)⟩
noncomputable def exclude_Check.m0 (k : Nat) (a0 : Int × Int × Int × Int) (a1 : Int × Int × Int) : Option (Int) :=
  execFI Try.prog (exclude_Check.fns k) exclude_Check.lay exclude_Check.ann k (exclude_Check.s0) 36 Try.f17.results.toList (Go.Vx.bodyOf Try.f17) (a0, a1)
noncomputable def exclude_Check.m : (Nat) → (Int × Int × Int × Int) → (Int × Int × Int) → Option (Int) := hide exclude_Check.m0
theorem exclude_Check.m_hid : exclude_Check.m = exclude_Check.m0 := hide_eq _
theorem exclude_Check.m_eq (k : Nat) (a0 : Int × Int × Int × Int) (a1 : Int × Int × Int) : exclude_Check.m k a0 a1 = (Option.bind (exclude_Right.m k (a0.fst, a0.snd.fst, a0.snd.snd.fst, a0.snd.snd.snd)) fun (r5 : Int) => (if (r5 != 0) = true then some (r5) else (if decide (a1.fst < 1) = true then some (240) else (if decide (a1.fst > (↑4 : Int)) = true then some (240) else (if IntKind.wrap IntKind.i64 (a1.fst - 1) = (↑0 : Int) then (Option.bind (exclude_divides.m k (a0.fst, a0.snd.fst, a0.snd.snd.fst, a0.snd.snd.snd) (a1.fst, a1.snd.fst, a1.snd.snd)) fun (r138 : Bool) => (if (!r138) = true then some (240) else some (0))) else (if IntKind.wrap IntKind.i64 (a1.fst - 1) = (↑(0 + 1) : Int) then (Option.bind (exclude_rules_2.m k (a0.fst, a0.snd.fst, a0.snd.snd.fst, a0.snd.snd.snd)) fun (r163 : Bool) => (if (!r163) = true then some (240) else some (0))) else (if IntKind.wrap IntKind.i64 (a1.fst - 1) = (↑(0 + 1 + 1) : Int) then (Option.bind (exclude_rules_3.m k (a0.fst, a0.snd.fst, a0.snd.snd.fst, a0.snd.snd.snd)) fun (r190 : Bool) => (if (!r190) = true then some (240) else some (0))) else (if IntKind.wrap IntKind.i64 (a1.fst - 1) = (↑(0 + 1 + 1 + 1) : Int) then (Option.bind (exclude_rules_4.m k (a0.fst, a0.snd.fst, a0.snd.snd.fst, a0.snd.snd.snd) (a1.fst, a1.snd.fst, a1.snd.snd)) fun (r213 : Bool) => (if (!r213) = true then some (240) else some (0))) else none)))))))) := by
  rw [exclude_Check.m_hid]
  kernel_rfl
noncomputable def exclude_Check.sp (k : Nat) : Go.Vx.Spec := exclude_Check.s0.runs fun (x : exclude_Check.s0.argK.T) => exclude_Check.m k x.1 x.2
theorem exclude_Check.good (k : Nat) : Go.Vx.Good Try.prog 17 (exclude_Check.sp k) := Go.Vx.good_runsI Try.func17 (show Try.f17.body = some (Go.Vx.bodyOf Try.f17) by kernel_rfl) (by kernel_rfl) (by kernel_rfl) (exclude_Check.fns_good k) exclude_Check.lay_good (by
  intro x r h
  have h : exclude_Check.m k x.1 x.2 = some r := h
  rw [exclude_Check.m_hid] at h
  exact h)
noncomputable def exclude_Open.s0 : Go.Vx.Spec := ⟨[none, none, none], (.pair (K.int IntKind.i64) (.pair (K.int IntKind.i64) (K.int IntKind.i64))), [.own ((K.int IntKind.i64)) 3, .im (K.int IntKind.i64)], .tup [none, none], false, fun _ => none⟩
noncomputable def exclude_Open.fns (k : Nat) : Go.Vx.Fns := [(12, exclude_Right.sp k), (30, exclude_Why.sp k)]
theorem exclude_Open.fns_good (k : Nat) : (exclude_Open.fns k).good Try.prog := (Go.Vx.Fns.good_cons (exclude_Right.good k) (Go.Vx.Fns.good_cons (exclude_Why.good k) Go.Vx.Fns.good_nil))
def exclude_Open.ann : List (Nat × Ann) := [(1000005, ⟨rg [(3, 5), (10, 35)], [(8, none, K.int IntKind.i64, some 3)]⟩)]
noncomputable def exclude_Open.lay : Lay := .nil
theorem exclude_Open.lay_good : exclude_Open.lay.good Try.prog := True.intro
noncomputable def exclude_Open.pl : Pl := ⟨0, exclude_Open.lay, exclude_Open.ann, (Go.Vx.bodyOf Try.f37)⟩
noncomputable def exclude_Open.l0 (n_ k : Nat)  (a0 : Int) (a1 : Int) (a2 : Int) (v3 : Int) (v4 : List Int) : Option (List Int × Int) :=
  loopK n_ (execP Try.prog (exclude_Open.fns k) k (plC [1, 1, 1, 0, 1, 0, 0] exclude_Open.pl)) (nmP (plC [1, 1, 1, 0, 1, 0, 0] exclude_Open.pl)) ({ tmps := [AV.val (Value.int IntKind.i64 a0), AV.val (Value.int IntKind.i64 a1), AV.val (Value.int IntKind.i64 a2)] ++ dz 5 ++ [AV.own 0, AV.val (Value.int IntKind.i64 v3)] ++ dz 35, ents := [(0, Ent.row { k := K.int IntKind.i64, T := 3, fz := false, xs := v4 })], nx := 1 }) (contP Try.prog (exclude_Open.fns k) k [1, 1, 1, 0, 1, 0] [] exclude_Open.pl (finK Try.prog (exclude_Open.s0) Try.f37.results.toList))
theorem exclude_Open.l0_succ (n0 k : Nat)  (a0 : Int) (a1 : Int) (a2 : Int) (v3 : Int) (v4 : List Int) : exclude_Open.l0 (n0 + 1) k  a0 a1 a2 (v3) (v4) = (if (decide (v3 ≤ a2)) = true then (Option.bind (exclude_Why.m k (2, a0, a1, v3)) fun (r132 : (Int × Int × Int) × Int) => (if (r132.snd == 4) = true then (if (List.length v4 + List.length [v3]) * 8 ≤ 140737488355328 then (exclude_Open.l0 n0 k  a0 a1 a2 (IntKind.wrap IntKind.i64 (v3 + 1)) (v4 ++ [v3])) else none) else (exclude_Open.l0 n0 k  a0 a1 a2 (IntKind.wrap IntKind.i64 (v3 + 1)) (v4)))) else some ((v4, 0))) := by kernel_rfl
noncomputable def exclude_Open.m0 (k : Nat) (a0 : Int) (a1 : Int) (a2 : Int) : Option (List Int × Int) :=
  execFI Try.prog (exclude_Open.fns k) exclude_Open.lay exclude_Open.ann k (exclude_Open.s0) 45 Try.f37.results.toList (Go.Vx.bodyOf Try.f37) (a0, a1, a2)
noncomputable def exclude_Open.m : (Nat) → (Int) → (Int) → (Int) → Option (List Int × Int) := hide exclude_Open.m0
theorem exclude_Open.m_hid : exclude_Open.m = exclude_Open.m0 := hide_eq _
theorem exclude_Open.m_eq (k : Nat) (a0 : Int) (a1 : Int) (a2 : Int) : exclude_Open.m k a0 a1 a2 = (if decide (a2 < 1) = true then some (([], 1)) else (if decide (a2 > 20) = true then some (([], 1)) else (Option.bind (exclude_Right.m k (2, a0, a1, 1)) fun (r55 : Int) => (if (r55 != 0) = true then some (([], 1)) else (exclude_Open.l0 k k  a0 a1 a2 (1) ([])))))) := by
  rw [exclude_Open.m_hid]
  kernel_rfl
noncomputable def exclude_Open.sp (k : Nat) : Go.Vx.Spec := exclude_Open.s0.runs fun (x : exclude_Open.s0.argK.T) => exclude_Open.m k x.1 x.2.1 x.2.2
theorem exclude_Open.good (k : Nat) : Go.Vx.Good Try.prog 37 (exclude_Open.sp k) := Go.Vx.good_runsI Try.func37 (show Try.f37.body = some (Go.Vx.bodyOf Try.f37) by kernel_rfl) (by kernel_rfl) (by kernel_rfl) (exclude_Open.fns_good k) exclude_Open.lay_good (by
  intro x r h
  have h : exclude_Open.m k x.1 x.2.1 x.2.2 = some r := h
  rw [exclude_Open.m_hid] at h
  exact h)
end Go.Proofs.Ytokaigninenjhaa.V22
