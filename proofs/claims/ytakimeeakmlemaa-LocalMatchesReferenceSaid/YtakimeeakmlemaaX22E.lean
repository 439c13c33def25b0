/- Functions as the abstract executor tells them: equations, and contracts; printed by a tool. -/
import Derived.Test.YtakimeeakmlemaaX22
namespace Go.Proofs.Ytakimeeakmlemaa.V22
open Go Go.Vx Go.Proofs
set_option linter.unusedVariables false
set_option maxRecDepth 100000
noncomputable def plexuslaw22_solved.s0 : Go.Vx.Spec := ⟨[none, none], (.pair (K.int IntKind.i64) (K.int IntKind.i64)), [.im (K.pair K.bool (K.pair (K.pair (K.int IntKind.i64) (K.pair (K.int IntKind.i64) (K.int IntKind.i64))) (K.int IntKind.i64)))], .one (some 5), false, fun _ => none⟩
noncomputable def plexuslaw22_solved.fns (k : Nat) : Go.Vx.Fns := [(18, local_Solve.sp k)]
theorem plexuslaw22_solved.fns_good (k : Nat) : (plexuslaw22_solved.fns k).good Try.prog := (Go.Vx.Fns.good_cons (local_Solve.good k) Go.Vx.Fns.good_nil)
def plexuslaw22_solved.ann : List (Nat × Ann) := []
noncomputable def plexuslaw22_solved.lay : Lay := .nil
theorem plexuslaw22_solved.lay_good : plexuslaw22_solved.lay.good Try.prog := True.intro
noncomputable def plexuslaw22_solved.pl : Pl := ⟨0, plexuslaw22_solved.lay, plexuslaw22_solved.ann, (Go.Vx.bodyOf Try.f27)⟩
noncomputable def plexuslaw22_solved.m0 (k : Nat) (a0 : Int) (a1 : Int) : Option (Bool × (Int × Int × Int) × Int) :=
  execFI Try.prog (plexuslaw22_solved.fns k) plexuslaw22_solved.lay plexuslaw22_solved.ann k (plexuslaw22_solved.s0) 17 Try.f27.results.toList (Go.Vx.bodyOf Try.f27) (a0, a1)
noncomputable def plexuslaw22_solved.m : (Nat) → (Int) → (Int) → Option (Bool × (Int × Int × Int) × Int) := hide plexuslaw22_solved.m0
theorem plexuslaw22_solved.m_hid : plexuslaw22_solved.m = plexuslaw22_solved.m0 := hide_eq _
theorem plexuslaw22_solved.m_eq (k : Nat) (a0 : Int) (a1 : Int) : plexuslaw22_solved.m k a0 a1 = (Option.bind (local_Solve.m k a0 a1) fun (r4 : (Bool × (Int × Int × Int) × Int) × Int) => (if (r4.snd != 0) = true then some ((false, (0, 0, 0), -1)) else some ((r4.fst.fst, (r4.fst.snd.fst.fst, r4.fst.snd.fst.snd.fst, r4.fst.snd.fst.snd.snd), r4.fst.snd.snd)))) := by
  rw [plexuslaw22_solved.m_hid]
  kernel_rfl
noncomputable def plexuslaw22_solved.sp (k : Nat) : Go.Vx.Spec := plexuslaw22_solved.s0.runs fun (x : plexuslaw22_solved.s0.argK.T) => plexuslaw22_solved.m k x.1 x.2
theorem plexuslaw22_solved.good (k : Nat) : Go.Vx.Good Try.prog 27 (plexuslaw22_solved.sp k) := Go.Vx.good_runsI Try.func27 (show Try.f27.body = some (Go.Vx.bodyOf Try.f27) by kernel_rfl) (by kernel_rfl) (by kernel_rfl) (plexuslaw22_solved.fns_good k) plexuslaw22_solved.lay_good (by
  intro x r h
  have h : plexuslaw22_solved.m k x.1 x.2 = some r := h
  rw [plexuslaw22_solved.m_hid] at h
  exact h)
noncomputable def plexuslaw22_hilbert.s0 : Go.Vx.Spec := ⟨[none, none, none], (.pair (K.int IntKind.i64) (.pair (K.int IntKind.i64) (K.int IntKind.i64))), [.im (K.int IntKind.i64)], .one (none), false, fun _ => none⟩
noncomputable def plexuslaw22_hilbert.fns (k : Nat) : Go.Vx.Fns := [(16, local_Hilbert.sp k)]
theorem plexuslaw22_hilbert.fns_good (k : Nat) : (plexuslaw22_hilbert.fns k).good Try.prog := (Go.Vx.Fns.good_cons (local_Hilbert.good k) Go.Vx.Fns.good_nil)
def plexuslaw22_hilbert.ann : List (Nat × Ann) := []
noncomputable def plexuslaw22_hilbert.lay : Lay := .nil
theorem plexuslaw22_hilbert.lay_good : plexuslaw22_hilbert.lay.good Try.prog := True.intro
noncomputable def plexuslaw22_hilbert.pl : Pl := ⟨0, plexuslaw22_hilbert.lay, plexuslaw22_hilbert.ann, (Go.Vx.bodyOf Try.f26)⟩
noncomputable def plexuslaw22_hilbert.m0 (k : Nat) (a0 : Int) (a1 : Int) (a2 : Int) : Option (Int) :=
  execFI Try.prog (plexuslaw22_hilbert.fns k) plexuslaw22_hilbert.lay plexuslaw22_hilbert.ann k (plexuslaw22_hilbert.s0) 19 Try.f26.results.toList (Go.Vx.bodyOf Try.f26) (a0, a1, a2)
noncomputable def plexuslaw22_hilbert.m : (Nat) → (Int) → (Int) → (Int) → Option (Int) := hide plexuslaw22_hilbert.m0
theorem plexuslaw22_hilbert.m_hid : plexuslaw22_hilbert.m = plexuslaw22_hilbert.m0 := hide_eq _
theorem plexuslaw22_hilbert.m_eq (k : Nat) (a0 : Int) (a1 : Int) (a2 : Int) : plexuslaw22_hilbert.m k a0 a1 a2 = (Option.bind (local_Hilbert.m k a0 a1 a2) fun (r5 : Int × Int) => (if (r5.snd != 0) = true then some (0) else some (r5.fst))) := by
  rw [plexuslaw22_hilbert.m_hid]
  kernel_rfl
noncomputable def plexuslaw22_hilbert.sp (k : Nat) : Go.Vx.Spec := plexuslaw22_hilbert.s0.runs fun (x : plexuslaw22_hilbert.s0.argK.T) => plexuslaw22_hilbert.m k x.1 x.2.1 x.2.2
theorem plexuslaw22_hilbert.good (k : Nat) : Go.Vx.Good Try.prog 26 (plexuslaw22_hilbert.sp k) := Go.Vx.good_runsI Try.func26 (show Try.f26.body = some (Go.Vx.bodyOf Try.f26) by kernel_rfl) (by kernel_rfl) (by kernel_rfl) (plexuslaw22_hilbert.fns_good k) plexuslaw22_hilbert.lay_good (by
  intro x r h
  have h : plexuslaw22_hilbert.m k x.1 x.2.1 x.2.2 = some r := h
  rw [plexuslaw22_hilbert.m_hid] at h
  exact h)
noncomputable def plexuslaw22_legendre.s0 : Go.Vx.Spec := ⟨[none, none], (.pair (K.int IntKind.i64) (K.int IntKind.i64)), [.im (K.int IntKind.i64)], .one (none), false, fun _ => none⟩
noncomputable def plexuslaw22_legendre.fns (k : Nat) : Go.Vx.Fns := [(10, local_Legendre.sp k)]
theorem plexuslaw22_legendre.fns_good (k : Nat) : (plexuslaw22_legendre.fns k).good Try.prog := (Go.Vx.Fns.good_cons (local_Legendre.good k) Go.Vx.Fns.good_nil)
def plexuslaw22_legendre.ann : List (Nat × Ann) := []
noncomputable def plexuslaw22_legendre.lay : Lay := .nil
theorem plexuslaw22_legendre.lay_good : plexuslaw22_legendre.lay.good Try.prog := True.intro
noncomputable def plexuslaw22_legendre.pl : Pl := ⟨0, plexuslaw22_legendre.lay, plexuslaw22_legendre.ann, (Go.Vx.bodyOf Try.f23)⟩
noncomputable def plexuslaw22_legendre.m0 (k : Nat) (a0 : Int) (a1 : Int) : Option (Int) :=
  execFI Try.prog (plexuslaw22_legendre.fns k) plexuslaw22_legendre.lay plexuslaw22_legendre.ann k (plexuslaw22_legendre.s0) 16 Try.f23.results.toList (Go.Vx.bodyOf Try.f23) (a0, a1)
noncomputable def plexuslaw22_legendre.m : (Nat) → (Int) → (Int) → Option (Int) := hide plexuslaw22_legendre.m0
theorem plexuslaw22_legendre.m_hid : plexuslaw22_legendre.m = plexuslaw22_legendre.m0 := hide_eq _
theorem plexuslaw22_legendre.m_eq (k : Nat) (a0 : Int) (a1 : Int) : plexuslaw22_legendre.m k a0 a1 = (Option.bind (local_Legendre.m k a0 a1) fun (r4 : Int × Int) => (if (r4.snd != 0) = true then some (2) else some (r4.fst))) := by
  rw [plexuslaw22_legendre.m_hid]
  kernel_rfl
noncomputable def plexuslaw22_legendre.sp (k : Nat) : Go.Vx.Spec := plexuslaw22_legendre.s0.runs fun (x : plexuslaw22_legendre.s0.argK.T) => plexuslaw22_legendre.m k x.1 x.2
theorem plexuslaw22_legendre.good (k : Nat) : Go.Vx.Good Try.prog 23 (plexuslaw22_legendre.sp k) := Go.Vx.good_runsI Try.func23 (show Try.f23.body = some (Go.Vx.bodyOf Try.f23) by kernel_rfl) (by kernel_rfl) (by kernel_rfl) (plexuslaw22_legendre.fns_good k) plexuslaw22_legendre.lay_good (by
  intro x r h
  have h : plexuslaw22_legendre.m k x.1 x.2 = some r := h
  rw [plexuslaw22_legendre.m_hid] at h
  exact h)
noncomputable def plexuslaw22_examples.s0 : Go.Vx.Spec := ⟨[], .unit, [.im (K.bool)], .one (none), false, fun _ => none⟩
noncomputable def plexuslaw22_examples.fns (k : Nat) : Go.Vx.Fns := [(12, local_Factors.sp k), (10, local_Legendre.sp k), (18, local_Solve.sp k), (27, plexuslaw22_solved.sp k), (26, plexuslaw22_hilbert.sp k), (14, local_Square.sp k), (23, plexuslaw22_legendre.sp k), (20, local_Check.sp k)]
theorem plexuslaw22_examples.fns_good (k : Nat) : (plexuslaw22_examples.fns k).good Try.prog := (Go.Vx.Fns.good_cons (local_Factors.good k) (Go.Vx.Fns.good_cons (local_Legendre.good k) (Go.Vx.Fns.good_cons (local_Solve.good k) (Go.Vx.Fns.good_cons (plexuslaw22_solved.good k) (Go.Vx.Fns.good_cons (plexuslaw22_hilbert.good k) (Go.Vx.Fns.good_cons (local_Square.good k) (Go.Vx.Fns.good_cons (plexuslaw22_legendre.good k) (Go.Vx.Fns.good_cons (local_Check.good k) Go.Vx.Fns.good_nil))))))))
def plexuslaw22_examples.ann : List (Nat × Ann) := []
noncomputable def plexuslaw22_examples.lay : Lay := .nil
theorem plexuslaw22_examples.lay_good : plexuslaw22_examples.lay.good Try.prog := True.intro
noncomputable def plexuslaw22_examples.pl : Pl := ⟨0, plexuslaw22_examples.lay, plexuslaw22_examples.ann, (Go.Vx.bodyOf Try.f9)⟩
noncomputable def plexuslaw22_examples.m0 (k : Nat) : Option (Bool) :=
  execFI Try.prog (plexuslaw22_examples.fns k) plexuslaw22_examples.lay plexuslaw22_examples.ann k (plexuslaw22_examples.s0) 106 Try.f9.results.toList (Go.Vx.bodyOf Try.f9) ()
noncomputable def plexuslaw22_examples.m : (Nat) → Option (Bool) := hide plexuslaw22_examples.m0
theorem plexuslaw22_examples.m_hid : plexuslaw22_examples.m = plexuslaw22_examples.m0 := hide_eq _
theorem plexuslaw22_examples.m_eq (k : Nat) : plexuslaw22_examples.m k = (Option.bind (local_Factors.m k 12) fun (r2 : List (Int × Int) × Int) => (Option.bind (local_Legendre.m k 3 9) fun (r9 : Int × Int) => (Option.bind (local_Solve.m k 0 1) fun (r16 : (Bool × (Int × Int × Int) × Int) × Int) => (if (r2.snd != 0) = true then some (false) else (if ((↑(List.length r2.1) : Int) != 2) = true then some (false) else (if 0 < (↑(List.length r2.1) : Int) then (if (!((List.getD r2.1 (Int.toNat 0) (Int.ofNat 0, Int.ofNat 0)).fst == 2 && (List.getD r2.1 (Int.toNat 0) (Int.ofNat 0, Int.ofNat 0)).snd == 2)) = true then some (false) else (if 1 < (↑(List.length r2.1) : Int) then (if (!((List.getD r2.1 (Int.toNat 1) (Int.ofNat 0, Int.ofNat 0)).fst == 3 && (List.getD r2.1 (Int.toNat 1) (Int.ofNat 0, Int.ofNat 0)).snd == 1)) = true then some (false) else (if (r9.snd != 1) = true then some (false) else (if (r16.snd != 1) = true then some (false) else (Option.bind (plexuslaw22_solved.m k 2 2) fun (r218 : Bool × (Int × Int × Int) × Int) => (Option.bind (plexuslaw22_solved.m k 3 (-1)) fun (r220 : Bool × (Int × Int × Int) × Int) => (if (r218.fst == true && (r218.snd.fst.fst == 1 && (r218.snd.fst.snd.fst == 1 && r218.snd.fst.snd.snd == 2) && r218.snd.snd == 0)) = true then (if (r220.fst == false && (r220.snd.fst.fst == 0 && (r220.snd.fst.snd.fst == 0 && r220.snd.fst.snd.snd == 0) && r220.snd.snd == 2)) = true then (Option.bind (plexuslaw22_hilbert.m k 3 (-1) 3) fun (r241 : Int) => (if (r241 == -1) = true then (Option.bind (plexuslaw22_hilbert.m k 3 (-1) 0) fun (r249 : Int) => (if (r249 == 1) = true then (Option.bind (plexuslaw22_solved.m k 4 5) fun (r257 : Bool × (Int × Int × Int) × Int) => (if (r257.snd.fst.fst == 1 && (r257.snd.fst.snd.fst == 0 && r257.snd.fst.snd.snd == 2)) = true then (Option.bind (plexuslaw22_solved.m k 5 4) fun (r269 : Bool × (Int × Int × Int) × Int) => (if (r269.snd.fst.fst == 0 && (r269.snd.fst.snd.fst == 1 && r269.snd.fst.snd.snd == 2)) = true then (Option.bind (local_Square.m k 49) fun (r281 : Bool) => (if r281 = true then (Option.bind (local_Square.m k (-4)) fun (r287 : Bool) => (if (!r287) = true then (Option.bind (plexuslaw22_legendre.m k 2 7) fun (r295 : Int) => (if (r295 == 1) = true then (Option.bind (plexuslaw22_legendre.m k 3 7) fun (r303 : Int) => (if (r303 == -1) = true then (Option.bind (local_Check.m k 3 (-1) (r220.fst, (r220.snd.fst.fst, r220.snd.fst.snd.fst, r220.snd.fst.snd.snd), r220.snd.snd)) fun (r313 : Int) => (if (r313 == 0) = true then (Option.bind (local_Check.m k 3 (-1) (false, (0, 0, 0), 5)) fun (r323 : Int) => some (r323 == 6)) else some (false))) else some (false))) else some (false))) else some (false))) else some (false))) else some (false))) else some (false))) else some (false))) else some (false))) else some (false)) else some (false))))))) else none)) else none)))))) := by
  rw [plexuslaw22_examples.m_hid]
  kernel_rfl
noncomputable def plexuslaw22_examples.sp (k : Nat) : Go.Vx.Spec := plexuslaw22_examples.s0.runs fun (x : plexuslaw22_examples.s0.argK.T) => plexuslaw22_examples.m k 
theorem plexuslaw22_examples.good (k : Nat) : Go.Vx.Good Try.prog 9 (plexuslaw22_examples.sp k) := Go.Vx.good_runsI Try.func9 (show Try.f9.body = some (Go.Vx.bodyOf Try.f9) by kernel_rfl) (by kernel_rfl) (by kernel_rfl) (plexuslaw22_examples.fns_good k) plexuslaw22_examples.lay_good (by
  intro x r h
  have h : plexuslaw22_examples.m k  = some r := h
  rw [plexuslaw22_examples.m_hid] at h
  exact h)
end Go.Proofs.Ytakimeeakmlemaa.V22
