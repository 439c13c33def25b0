/- Functions as the abstract executor tells them: equations, and contracts; printed by a tool. -/
import Derived.Test.YtokaigninenjhaaX24
namespace Go.Proofs.Ytokaigninenjhaa.V22
open Go Go.Vx Go.Proofs
set_option linter.unusedVariables false
set_option maxRecDepth 100000
noncomputable def plexusref06_SameInts.s0 : Go.Vx.Spec := ⟨[none, none], (.pair (K.slice (K.int IntKind.i64)) (K.slice (K.int IntKind.i64))), [.im (K.bool)], .one (none), false, fun _ => none⟩
noncomputable def plexusref06_SameInts.fns (k : Nat) : Go.Vx.Fns := []
theorem plexusref06_SameInts.fns_good (k : Nat) : (plexusref06_SameInts.fns k).good Try.prog := Go.Vx.Fns.good_nil
def plexusref06_SameInts.ann : List (Nat × Ann) := [(1000004, ⟨rg [(2, 3), (6, 20)], []⟩)]
noncomputable def plexusref06_SameInts.lay : Lay := .nil
theorem plexusref06_SameInts.lay_good : plexusref06_SameInts.lay.good Try.prog := True.intro
noncomputable def plexusref06_SameInts.pl : Pl := ⟨0, plexusref06_SameInts.lay, plexusref06_SameInts.ann, (Go.Vx.bodyOf Try.f21)⟩
noncomputable def plexusref06_SameInts.l0 (n_ k : Nat)  (a0 : List Int) (a1 : List Int) (v2 : Int) : Option (Bool) :=
  loopK n_ (execP Try.prog (plexusref06_SameInts.fns k) k (plC [1, 1, 0, 1, 0, 0] plexusref06_SameInts.pl)) (nmP (plC [1, 1, 0, 1, 0, 0] plexusref06_SameInts.pl)) ({ tmps := [AV.sh (K.int IntKind.i64) a0, AV.sh (K.int IntKind.i64) a1] ++ dz 3 ++ [AV.val (Value.int IntKind.i64 v2)] ++ dz 20, ents := [], nx := 0 }) (contP Try.prog (plexusref06_SameInts.fns k) k [1, 1, 0, 1, 0] [] plexusref06_SameInts.pl (finK Try.prog (plexusref06_SameInts.s0) Try.f21.results.toList))
theorem plexusref06_SameInts.l0_succ (n0 k : Nat)  (a0 : List Int) (a1 : List Int) (v2 : Int) : plexusref06_SameInts.l0 (n0 + 1) k  a0 a1 (v2) = (if (decide (v2 < (↑(List.length a0) : Int))) = true then (if 0 ≤ v2 then (if v2 < (↑(List.length a0) : Int) then (if 0 ≤ v2 then (if v2 < (↑(List.length a1) : Int) then (if (List.getD a0 (Int.toNat v2) (Int.ofNat 0) != List.getD a1 (Int.toNat v2) (Int.ofNat 0)) = true then some (false) else (plexusref06_SameInts.l0 n0 k  a0 a1 (IntKind.wrap IntKind.i64 (v2 + 1)))) else none) else none) else none) else none) else some (true)) := by kernel_rfl
noncomputable def plexusref06_SameInts.m0 (k : Nat) (a0 : List Int) (a1 : List Int) : Option (Bool) :=
  execFI Try.prog (plexusref06_SameInts.fns k) plexusref06_SameInts.lay plexusref06_SameInts.ann k (plexusref06_SameInts.s0) 26 Try.f21.results.toList (Go.Vx.bodyOf Try.f21) (a0, a1)
noncomputable def plexusref06_SameInts.m : (Nat) → (List Int) → (List Int) → Option (Bool) := hide plexusref06_SameInts.m0
theorem plexusref06_SameInts.m_hid : plexusref06_SameInts.m = plexusref06_SameInts.m0 := hide_eq _
theorem plexusref06_SameInts.m_eq (k : Nat) (a0 : List Int) (a1 : List Int) : plexusref06_SameInts.m k a0 a1 = (if ((↑(List.length a0) : Int) != (↑(List.length a1) : Int)) = true then some (false) else (plexusref06_SameInts.l0 k k  a0 a1 (0))) := by
  rw [plexusref06_SameInts.m_hid]
  kernel_rfl
noncomputable def plexusref06_SameInts.sp (k : Nat) : Go.Vx.Spec := plexusref06_SameInts.s0.runs fun (x : plexusref06_SameInts.s0.argK.T) => plexusref06_SameInts.m k x.1 x.2
theorem plexusref06_SameInts.good (k : Nat) : Go.Vx.Good Try.prog 21 (plexusref06_SameInts.sp k) := Go.Vx.good_runsI Try.func21 (show Try.f21.body = some (Go.Vx.bodyOf Try.f21) by kernel_rfl) (by kernel_rfl) (by kernel_rfl) (plexusref06_SameInts.fns_good k) plexusref06_SameInts.lay_good (by
  intro x r h
  have h : plexusref06_SameInts.m k x.1 x.2 = some r := h
  rw [plexusref06_SameInts.m_hid] at h
  exact h)
noncomputable def plexuslaw24_par.s0 : Go.Vx.Spec := ⟨[none, none, none], (.pair (K.int IntKind.i64) (.pair (K.int IntKind.i64) (K.int IntKind.i64))), [.im (K.pair (K.int IntKind.i64) (K.pair (K.int IntKind.i64) (K.pair (K.int IntKind.i64) (K.int IntKind.i64))))], .one (some 4), false, fun _ => none⟩
noncomputable def plexuslaw24_par.fns (k : Nat) : Go.Vx.Fns := []
theorem plexuslaw24_par.fns_good (k : Nat) : (plexuslaw24_par.fns k).good Try.prog := Go.Vx.Fns.good_nil
def plexuslaw24_par.ann : List (Nat × Ann) := []
noncomputable def plexuslaw24_par.lay : Lay := .nil
theorem plexuslaw24_par.lay_good : plexuslaw24_par.lay.good Try.prog := True.intro
noncomputable def plexuslaw24_par.pl : Pl := ⟨0, plexuslaw24_par.lay, plexuslaw24_par.ann, (Go.Vx.bodyOf Try.f23)⟩
noncomputable def plexuslaw24_par.m0 (k : Nat) (a0 : Int) (a1 : Int) (a2 : Int) : Option (Int × Int × Int × Int) :=
  execFI Try.prog (plexuslaw24_par.fns k) plexuslaw24_par.lay plexuslaw24_par.ann k (plexuslaw24_par.s0) 11 Try.f23.results.toList (Go.Vx.bodyOf Try.f23) (a0, a1, a2)
noncomputable def plexuslaw24_par.m : (Nat) → (Int) → (Int) → (Int) → Option (Int × Int × Int × Int) := hide plexuslaw24_par.m0
theorem plexuslaw24_par.m_hid : plexuslaw24_par.m = plexuslaw24_par.m0 := hide_eq _
theorem plexuslaw24_par.m_eq (k : Nat) (a0 : Int) (a1 : Int) (a2 : Int) : plexuslaw24_par.m k a0 a1 a2 = some ((2, a0, a1, a2)) := by
  rw [plexuslaw24_par.m_hid]
  kernel_rfl
noncomputable def plexuslaw24_par.sp (k : Nat) : Go.Vx.Spec := plexuslaw24_par.s0.runs fun (x : plexuslaw24_par.s0.argK.T) => plexuslaw24_par.m k x.1 x.2.1 x.2.2
theorem plexuslaw24_par.good (k : Nat) : Go.Vx.Good Try.prog 23 (plexuslaw24_par.sp k) := Go.Vx.good_runsI Try.func23 (show Try.f23.body = some (Go.Vx.bodyOf Try.f23) by kernel_rfl) (by kernel_rfl) (by kernel_rfl) (plexuslaw24_par.fns_good k) plexuslaw24_par.lay_good (by
  intro x r h
  have h : plexuslaw24_par.m k x.1 x.2.1 x.2.2 = some r := h
  rw [plexuslaw24_par.m_hid] at h
  exact h)
noncomputable def plexuslaw24_why.s0 : Go.Vx.Spec := ⟨[some 4], (K.pair (K.int IntKind.i64) (K.pair (K.int IntKind.i64) (K.pair (K.int IntKind.i64) (K.int IntKind.i64)))), [.im (K.pair (K.pair (K.int IntKind.i64) (K.pair (K.int IntKind.i64) (K.int IntKind.i64))) (K.int IntKind.i64))], .one (some 4), false, fun _ => none⟩
noncomputable def plexuslaw24_why.fns (k : Nat) : Go.Vx.Fns := [(30, exclude_Why.sp k)]
theorem plexuslaw24_why.fns_good (k : Nat) : (plexuslaw24_why.fns k).good Try.prog := (Go.Vx.Fns.good_cons (exclude_Why.good k) Go.Vx.Fns.good_nil)
def plexuslaw24_why.ann : List (Nat × Ann) := []
noncomputable def plexuslaw24_why.lay : Lay := .nil
theorem plexuslaw24_why.lay_good : plexuslaw24_why.lay.good Try.prog := True.intro
noncomputable def plexuslaw24_why.pl : Pl := ⟨0, plexuslaw24_why.lay, plexuslaw24_why.ann, (Go.Vx.bodyOf Try.f14)⟩
noncomputable def plexuslaw24_why.m0 (k : Nat) (a0 : Int × Int × Int × Int) : Option ((Int × Int × Int) × Int) :=
  execFI Try.prog (plexuslaw24_why.fns k) plexuslaw24_why.lay plexuslaw24_why.ann k (plexuslaw24_why.s0) 13 Try.f14.results.toList (Go.Vx.bodyOf Try.f14) a0
noncomputable def plexuslaw24_why.m : (Nat) → (Int × Int × Int × Int) → Option ((Int × Int × Int) × Int) := hide plexuslaw24_why.m0
theorem plexuslaw24_why.m_hid : plexuslaw24_why.m = plexuslaw24_why.m0 := hide_eq _
theorem plexuslaw24_why.m_eq (k : Nat) (a0 : Int × Int × Int × Int) : plexuslaw24_why.m k a0 = (Option.bind (exclude_Why.m k (a0.fst, a0.snd.fst, a0.snd.snd.fst, a0.snd.snd.snd)) fun (r4 : (Int × Int × Int) × Int) => some (((r4.fst.fst, r4.fst.snd.fst, r4.fst.snd.snd), r4.snd))) := by
  rw [plexuslaw24_why.m_hid]
  kernel_rfl
noncomputable def plexuslaw24_why.sp (k : Nat) : Go.Vx.Spec := plexuslaw24_why.s0.runs fun (x : plexuslaw24_why.s0.argK.T) => plexuslaw24_why.m k x
theorem plexuslaw24_why.good (k : Nat) : Go.Vx.Good Try.prog 14 (plexuslaw24_why.sp k) := Go.Vx.good_runsI Try.func14 (show Try.f14.body = some (Go.Vx.bodyOf Try.f14) by kernel_rfl) (by kernel_rfl) (by kernel_rfl) (plexuslaw24_why.fns_good k) plexuslaw24_why.lay_good (by
  intro x r h
  have h : plexuslaw24_why.m k x = some r := h
  rw [plexuslaw24_why.m_hid] at h
  exact h)
noncomputable def plexuslaw24_blocks.s0 : Go.Vx.Spec := ⟨[some 4, none], (.pair (K.pair (K.int IntKind.i64) (K.pair (K.int IntKind.i64) (K.pair (K.int IntKind.i64) (K.int IntKind.i64)))) (K.int IntKind.i64)), [.im (K.pair (K.pair (K.int IntKind.i64) (K.int IntKind.i64)) (K.int IntKind.i64))], .one (some 3), false, fun _ => none⟩
noncomputable def plexuslaw24_blocks.fns (k : Nat) : Go.Vx.Fns := [(31, exclude_Blocks.sp k)]
theorem plexuslaw24_blocks.fns_good (k : Nat) : (plexuslaw24_blocks.fns k).good Try.prog := (Go.Vx.Fns.good_cons (exclude_Blocks.good k) Go.Vx.Fns.good_nil)
def plexuslaw24_blocks.ann : List (Nat × Ann) := []
noncomputable def plexuslaw24_blocks.lay : Lay := .nil
theorem plexuslaw24_blocks.lay_good : plexuslaw24_blocks.lay.good Try.prog := True.intro
noncomputable def plexuslaw24_blocks.pl : Pl := ⟨0, plexuslaw24_blocks.lay, plexuslaw24_blocks.ann, (Go.Vx.bodyOf Try.f15)⟩
noncomputable def plexuslaw24_blocks.m0 (k : Nat) (a0 : Int × Int × Int × Int) (a1 : Int) : Option ((Int × Int) × Int) :=
  execFI Try.prog (plexuslaw24_blocks.fns k) plexuslaw24_blocks.lay plexuslaw24_blocks.ann k (plexuslaw24_blocks.s0) 16 Try.f15.results.toList (Go.Vx.bodyOf Try.f15) (a0, a1)
noncomputable def plexuslaw24_blocks.m : (Nat) → (Int × Int × Int × Int) → (Int) → Option ((Int × Int) × Int) := hide plexuslaw24_blocks.m0
theorem plexuslaw24_blocks.m_hid : plexuslaw24_blocks.m = plexuslaw24_blocks.m0 := hide_eq _
theorem plexuslaw24_blocks.m_eq (k : Nat) (a0 : Int × Int × Int × Int) (a1 : Int) : plexuslaw24_blocks.m k a0 a1 = (Option.bind (exclude_Blocks.m k (a0.fst, a0.snd.fst, a0.snd.snd.fst, a0.snd.snd.snd) a1) fun (r5 : (Int × Int) × Int) => some (((r5.fst.fst, r5.fst.snd), r5.snd))) := by
  rw [plexuslaw24_blocks.m_hid]
  kernel_rfl
noncomputable def plexuslaw24_blocks.sp (k : Nat) : Go.Vx.Spec := plexuslaw24_blocks.s0.runs fun (x : plexuslaw24_blocks.s0.argK.T) => plexuslaw24_blocks.m k x.1 x.2
theorem plexuslaw24_blocks.good (k : Nat) : Go.Vx.Good Try.prog 15 (plexuslaw24_blocks.sp k) := Go.Vx.good_runsI Try.func15 (show Try.f15.body = some (Go.Vx.bodyOf Try.f15) by kernel_rfl) (by kernel_rfl) (by kernel_rfl) (plexuslaw24_blocks.fns_good k) plexuslaw24_blocks.lay_good (by
  intro x r h
  have h : plexuslaw24_blocks.m k x.1 x.2 = some r := h
  rw [plexuslaw24_blocks.m_hid] at h
  exact h)
noncomputable def plexuslaw24_open.s0 : Go.Vx.Spec := ⟨[none, none, none], (.pair (K.int IntKind.i64) (.pair (K.int IntKind.i64) (K.int IntKind.i64))), [.im (K.pair (K.slice (K.int IntKind.i64)) (K.int IntKind.i64))], .one (some 2), true, fun _ => none⟩
noncomputable def plexuslaw24_open.fns (k : Nat) : Go.Vx.Fns := [(37, exclude_Open.sp k)]
theorem plexuslaw24_open.fns_good (k : Nat) : (plexuslaw24_open.fns k).good Try.prog := (Go.Vx.Fns.good_cons (exclude_Open.good k) Go.Vx.Fns.good_nil)
def plexuslaw24_open.ann : List (Nat × Ann) := []
noncomputable def plexuslaw24_open.lay : Lay := .nil
theorem plexuslaw24_open.lay_good : plexuslaw24_open.lay.good Try.prog := True.intro
noncomputable def plexuslaw24_open.pl : Pl := ⟨0, plexuslaw24_open.lay, plexuslaw24_open.ann, (Go.Vx.bodyOf Try.f19)⟩
noncomputable def plexuslaw24_open.m0 (k : Nat) (a0 : Int) (a1 : Int) (a2 : Int) : Option (List Int × Int) :=
  execFI Try.prog (plexuslaw24_open.fns k) plexuslaw24_open.lay plexuslaw24_open.ann k (plexuslaw24_open.s0) 19 Try.f19.results.toList (Go.Vx.bodyOf Try.f19) (a0, a1, a2)
noncomputable def plexuslaw24_open.m : (Nat) → (Int) → (Int) → (Int) → Option (List Int × Int) := hide plexuslaw24_open.m0
theorem plexuslaw24_open.m_hid : plexuslaw24_open.m = plexuslaw24_open.m0 := hide_eq _
theorem plexuslaw24_open.m_eq (k : Nat) (a0 : Int) (a1 : Int) (a2 : Int) : plexuslaw24_open.m k a0 a1 a2 = (Option.bind (exclude_Open.m k a0 a1 a2) fun (r5 : List Int × Int) => some ((r5.1, r5.snd))) := by
  rw [plexuslaw24_open.m_hid]
  kernel_rfl
noncomputable def plexuslaw24_open.sp (k : Nat) : Go.Vx.Spec := plexuslaw24_open.s0.runs fun (x : plexuslaw24_open.s0.argK.T) => plexuslaw24_open.m k x.1 x.2.1 x.2.2
theorem plexuslaw24_open.good (k : Nat) : Go.Vx.Good Try.prog 19 (plexuslaw24_open.sp k) := Go.Vx.good_runsI Try.func19 (show Try.f19.body = some (Go.Vx.bodyOf Try.f19) by kernel_rfl) (by kernel_rfl) (by kernel_rfl) (plexuslaw24_open.fns_good k) plexuslaw24_open.lay_good (by
  intro x r h
  have h : plexuslaw24_open.m k x.1 x.2.1 x.2.2 = some r := h
  rw [plexuslaw24_open.m_hid] at h
  exact h)
noncomputable def plexuslaw24_examples.s0 : Go.Vx.Spec := ⟨[], .unit, [.im (K.bool)], .one (none), false, fun _ => none⟩
noncomputable def plexuslaw24_examples.fns (k : Nat) : Go.Vx.Fns := [(23, plexuslaw24_par.sp k), (14, plexuslaw24_why.sp k), (19, plexuslaw24_open.sp k), (21, plexusref06_SameInts.sp k), (15, plexuslaw24_blocks.sp k), (17, exclude_Check.sp k), (12, exclude_Right.sp k)]
theorem plexuslaw24_examples.fns_good (k : Nat) : (plexuslaw24_examples.fns k).good Try.prog := (Go.Vx.Fns.good_cons (plexuslaw24_par.good k) (Go.Vx.Fns.good_cons (plexuslaw24_why.good k) (Go.Vx.Fns.good_cons (plexuslaw24_open.good k) (Go.Vx.Fns.good_cons (plexusref06_SameInts.good k) (Go.Vx.Fns.good_cons (plexuslaw24_blocks.good k) (Go.Vx.Fns.good_cons (exclude_Check.good k) (Go.Vx.Fns.good_cons (exclude_Right.good k) Go.Vx.Fns.good_nil)))))))
def plexuslaw24_examples.ann : List (Nat × Ann) := []
noncomputable def plexuslaw24_examples.lay : Lay := .nil
theorem plexuslaw24_examples.lay_good : plexuslaw24_examples.lay.good Try.prog := True.intro
noncomputable def plexuslaw24_examples.pl : Pl := ⟨0, plexuslaw24_examples.lay, plexuslaw24_examples.ann, (Go.Vx.bodyOf Try.f9)⟩
noncomputable def plexuslaw24_examples.m0 (k : Nat) : Option (Bool) :=
  execFI Try.prog (plexuslaw24_examples.fns k) plexuslaw24_examples.lay plexuslaw24_examples.ann k (plexuslaw24_examples.s0) 87 Try.f9.results.toList (Go.Vx.bodyOf Try.f9) ()
noncomputable def plexuslaw24_examples.m : (Nat) → Option (Bool) := hide plexuslaw24_examples.m0
theorem plexuslaw24_examples.m_hid : plexuslaw24_examples.m = plexuslaw24_examples.m0 := hide_eq _
theorem plexuslaw24_examples.m_eq (k : Nat) : plexuslaw24_examples.m k = (Option.bind (plexuslaw24_par.m k 8 3 1) fun (r2 : Int × Int × Int × Int) => (Option.bind (plexuslaw24_why.m k (r2.fst, r2.snd.fst, r2.snd.snd.fst, r2.snd.snd.snd)) fun (r4 : (Int × Int × Int) × Int) => (if (!(r4.fst.fst == 1 && (r4.fst.snd.fst == 0 && r4.fst.snd.snd == 0) && r4.snd == 0)) = true then some (false) else (Option.bind (plexuslaw24_par.m k 16 6 1) fun (r61 : Int × Int × Int × Int) => (Option.bind (plexuslaw24_why.m k (r61.fst, r61.snd.fst, r61.snd.snd.fst, r61.snd.snd.snd)) fun (r64 : (Int × Int × Int) × Int) => (if (!(r64.fst.fst == 2 && (r64.fst.snd.fst == 0 && r64.fst.snd.snd == 0) && r64.snd == 0)) = true then some (false) else (Option.bind (plexuslaw24_par.m k 22 7 2) fun (r113 : Int × Int × Int × Int) => (Option.bind (plexuslaw24_why.m k (r113.fst, r113.snd.fst, r113.snd.snd.fst, r113.snd.snd.snd)) fun (r116 : (Int × Int × Int) × Int) => (if (!(r116.fst.fst == 3 && (r116.fst.snd.fst == 0 && r116.fst.snd.snd == 0) && r116.snd == 0)) = true then some (false) else (Option.bind (plexuslaw24_par.m k 43 7 1) fun (r152 : Int × Int × Int × Int) => (Option.bind (plexuslaw24_why.m k (r152.fst, r152.snd.fst, r152.snd.snd.fst, r152.snd.snd.snd)) fun (r155 : (Int × Int × Int) × Int) => (if (!(r155.fst.fst == 4 && (r155.fst.snd.fst == 0 && r155.fst.snd.snd == 2) && r155.snd == 0)) = true then some (false) else (Option.bind (plexuslaw24_par.m k 7 3 1) fun (r178 : Int × Int × Int × Int) => (Option.bind (plexuslaw24_why.m k (r178.fst, r178.snd.fst, r178.snd.snd.fst, r178.snd.snd.snd)) fun (r181 : (Int × Int × Int) × Int) => (if (r181.snd != 4) = true then some (false) else (Option.bind (plexuslaw24_open.m k 7 3 3) fun (r191 : List Int × Int) => (Option.bind (plexuslaw24_open.m k 8 3 6) fun (r193 : List Int × Int) => (if (r191.snd != 0) = true then some (false) else (if (r193.snd != 0) = true then some (false) else (Option.bind (plexusref06_SameInts.m k r191.fst [1, 2, 3]) fun (r306 : Bool) => (if (!r306) = true then some (false) else (Option.bind (plexusref06_SameInts.m k r193.fst [6]) fun (r346 : Bool) => (if (!r346) = true then some (false) else (Option.bind (plexuslaw24_par.m k 8 3 1) fun (r367 : Int × Int × Int × Int) => (Option.bind (plexuslaw24_blocks.m k (r367.fst, r367.snd.fst, r367.snd.snd.fst, r367.snd.snd.snd) 0) fun (r370 : (Int × Int) × Int) => (if (!(r370.fst.fst == 28 && r370.fst.snd == 3)) = true then some (false) else (Option.bind (plexuslaw24_par.m k 43 7 1) fun (r382 : Int × Int × Int × Int) => (Option.bind (exclude_Check.m k (r382.fst, r382.snd.fst, r382.snd.snd.fst, r382.snd.snd.snd) (4, 0, 3)) fun (r385 : Int) => (if (r385 == 0) = true then (Option.bind (plexuslaw24_par.m k 43 7 1) fun (r390 : Int × Int × Int × Int) => (Option.bind (exclude_Check.m k (r390.fst, r390.snd.fst, r390.snd.snd.fst, r390.snd.snd.snd) (4, 0, 5)) fun (r395 : Int) => (if (r395 == 240) = true then (Option.bind (plexuslaw24_par.m k 8 8 1) fun (r403 : Int × Int × Int × Int) => (Option.bind (exclude_Right.m k (r403.fst, r403.snd.fst, r403.snd.snd.fst, r403.snd.snd.snd)) fun (r406 : Int) => (if (r406 == 1) = true then (Option.bind (plexuslaw24_why.m k (0, 0, 0, 0)) fun (r416 : (Int × Int × Int) × Int) => some (r416.snd == 1)) else some (false)))) else some (false)))) else some (false)))))))))))))))))))))))))))))) := by
  rw [plexuslaw24_examples.m_hid]
  kernel_rfl
noncomputable def plexuslaw24_examples.sp (k : Nat) : Go.Vx.Spec := plexuslaw24_examples.s0.runs fun (x : plexuslaw24_examples.s0.argK.T) => plexuslaw24_examples.m k 
theorem plexuslaw24_examples.good (k : Nat) : Go.Vx.Good Try.prog 9 (plexuslaw24_examples.sp k) := Go.Vx.good_runsI Try.func9 (show Try.f9.body = some (Go.Vx.bodyOf Try.f9) by kernel_rfl) (by kernel_rfl) (by kernel_rfl) (plexuslaw24_examples.fns_good k) plexuslaw24_examples.lay_good (by
  intro x r h
  have h : plexuslaw24_examples.m k  = some r := h
  rw [plexuslaw24_examples.m_hid] at h
  exact h)
end Go.Proofs.Ytokaigninenjhaa.V22
