/- Functions as the abstract executor tells them: equations, and contracts; printed by a tool. -/
import Derived.Test.YtokaigninenjhaaVsL
namespace Go.Proofs.Ytokaigninenjhaa.V22
open Go Go.Vx Go.Proofs
set_option linter.unusedVariables false
set_option maxRecDepth 100000
noncomputable def local_small.s0 : Go.Vx.Spec := ⟨[none], (K.int IntKind.i64), [.im (K.bool)], .one (none), false, fun _ => none⟩
noncomputable def local_small.fns (k : Nat) : Go.Vx.Fns := []
theorem local_small.fns_good (k : Nat) : (local_small.fns k).good Try.prog := Go.Vx.Fns.good_nil
def local_small.ann : List (Nat × Ann) := []
noncomputable def local_small.lay : Lay := .nil
theorem local_small.lay_good : local_small.lay.good Try.prog := True.intro
noncomputable def local_small.pl : Pl := ⟨0, local_small.lay, local_small.ann, (Go.Vx.bodyOf Try.f39)⟩
noncomputable def local_small.m0 (k : Nat) (a0 : Int) : Option (Bool) :=
  execFI Try.prog (local_small.fns k) local_small.lay local_small.ann k (local_small.s0) 13 Try.f39.results.toList (Go.Vx.bodyOf Try.f39) a0
noncomputable def local_small.m : (Nat) → (Int) → Option (Bool) := hide local_small.m0
theorem local_small.m_hid : local_small.m = local_small.m0 := hide_eq _
theorem local_small.m_eq (k : Nat) (a0 : Int) : local_small.m k a0 = (if (a0 != 0) = true then (if decide (a0 ≥ -200) = true then some (decide (a0 ≤ 200)) else some (false)) else some (false)) := by
  rw [local_small.m_hid]
  kernel_rfl
noncomputable def local_small.sp (k : Nat) : Go.Vx.Spec := local_small.s0.runs fun (x : local_small.s0.argK.T) => local_small.m k x
theorem local_small.good (k : Nat) : Go.Vx.Good Try.prog 39 (local_small.sp k) := Go.Vx.good_runsI Try.func39 (show Try.f39.body = some (Go.Vx.bodyOf Try.f39) by kernel_rfl) (by kernel_rfl) (by kernel_rfl) (local_small.fns_good k) local_small.lay_good (by
  intro x r h
  have h : local_small.m k x = some r := h
  rw [local_small.m_hid] at h
  exact h)
noncomputable def local_prime.s0 : Go.Vx.Spec := ⟨[none], (K.int IntKind.i64), [.im (K.bool)], .one (none), false, fun _ => none⟩
noncomputable def local_prime.fns (k : Nat) : Go.Vx.Fns := []
theorem local_prime.fns_good (k : Nat) : (local_prime.fns k).good Try.prog := Go.Vx.Fns.good_nil
def local_prime.ann : List (Nat × Ann) := [(1000002, ⟨rg [(1, 2), (4, 13)], []⟩)]
noncomputable def local_prime.lay : Lay := .nil
theorem local_prime.lay_good : local_prime.lay.good Try.prog := True.intro
noncomputable def local_prime.pl : Pl := ⟨0, local_prime.lay, local_prime.ann, (Go.Vx.bodyOf Try.f40)⟩
noncomputable def local_prime.l0 (n_ k : Nat)  (a0 : Int) (v1 : Int) : Option (Bool) :=
  loopK n_ (execP Try.prog (local_prime.fns k) k (plC [1, 0, 1, 0, 0] local_prime.pl)) (nmP (plC [1, 0, 1, 0, 0] local_prime.pl)) ({ tmps := [AV.val (Value.int IntKind.i64 a0)] ++ dz 2 ++ [AV.val (Value.int IntKind.i64 v1)] ++ dz 13, ents := [], nx := 0 }) (contP Try.prog (local_prime.fns k) k [1, 0, 1, 0] [] local_prime.pl (finK Try.prog (local_prime.s0) Try.f40.results.toList))
theorem local_prime.l0_succ (n0 k : Nat)  (a0 : Int) (v1 : Int) : local_prime.l0 (n0 + 1) k  a0 (v1) = (if (decide (IntKind.wrap IntKind.i64 (v1 * v1) ≤ a0)) = true then (if v1 = 0 then none else (if (divF BinOp.rem IntKind.i64 a0 v1 == 0) = true then some (false) else (local_prime.l0 n0 k  a0 (IntKind.wrap IntKind.i64 (v1 + 1))))) else some (decide (a0 > 1))) := by kernel_rfl
noncomputable def local_prime.m0 (k : Nat) (a0 : Int) : Option (Bool) :=
  execFI Try.prog (local_prime.fns k) local_prime.lay local_prime.ann k (local_prime.s0) 17 Try.f40.results.toList (Go.Vx.bodyOf Try.f40) a0
noncomputable def local_prime.m : (Nat) → (Int) → Option (Bool) := hide local_prime.m0
theorem local_prime.m_hid : local_prime.m = local_prime.m0 := hide_eq _
theorem local_prime.m_eq (k : Nat) (a0 : Int) : local_prime.m k a0 = (local_prime.l0 k k  a0 (2)) := by
  rw [local_prime.m_hid]
  kernel_rfl
noncomputable def local_prime.sp (k : Nat) : Go.Vx.Spec := local_prime.s0.runs fun (x : local_prime.s0.argK.T) => local_prime.m k x
theorem local_prime.good (k : Nat) : Go.Vx.Good Try.prog 40 (local_prime.sp k) := Go.Vx.good_runsI Try.func40 (show Try.f40.body = some (Go.Vx.bodyOf Try.f40) by kernel_rfl) (by kernel_rfl) (by kernel_rfl) (local_prime.fns_good k) local_prime.lay_good (by
  intro x r h
  have h : local_prime.m k x = some r := h
  rw [local_prime.m_hid] at h
  exact h)
noncomputable def local_sign.s0 : Go.Vx.Spec := ⟨[none], (K.bool), [.im (K.int IntKind.i64)], .one (none), false, fun _ => none⟩
noncomputable def local_sign.fns (k : Nat) : Go.Vx.Fns := []
theorem local_sign.fns_good (k : Nat) : (local_sign.fns k).good Try.prog := Go.Vx.Fns.good_nil
def local_sign.ann : List (Nat × Ann) := []
noncomputable def local_sign.lay : Lay := .nil
theorem local_sign.lay_good : local_sign.lay.good Try.prog := True.intro
noncomputable def local_sign.pl : Pl := ⟨0, local_sign.lay, local_sign.ann, (Go.Vx.bodyOf Try.f41)⟩
noncomputable def local_sign.m0 (k : Nat) (a0 : Bool) : Option (Int) :=
  execFI Try.prog (local_sign.fns k) local_sign.lay local_sign.ann k (local_sign.s0) 4 Try.f41.results.toList (Go.Vx.bodyOf Try.f41) a0
noncomputable def local_sign.m : (Nat) → (Bool) → Option (Int) := hide local_sign.m0
theorem local_sign.m_hid : local_sign.m = local_sign.m0 := hide_eq _
theorem local_sign.m_eq (k : Nat) (a0 : Bool) : local_sign.m k a0 = (if (a0) = true then some (-1) else some (1)) := by
  rw [local_sign.m_hid]
  kernel_rfl
noncomputable def local_sign.sp (k : Nat) : Go.Vx.Spec := local_sign.s0.runs fun (x : local_sign.s0.argK.T) => local_sign.m k x
theorem local_sign.good (k : Nat) : Go.Vx.Good Try.prog 41 (local_sign.sp k) := Go.Vx.good_runsI Try.func41 (show Try.f41.body = some (Go.Vx.bodyOf Try.f41) by kernel_rfl) (by kernel_rfl) (by kernel_rfl) (local_sign.fns_good k) local_sign.lay_good (by
  intro x r h
  have h : local_sign.m k x = some r := h
  rw [local_sign.m_hid] at h
  exact h)
noncomputable def local_valuation.s0 : Go.Vx.Spec := ⟨[none, none], (.pair (K.int IntKind.i64) (K.int IntKind.i64)), [.im (K.int IntKind.i64), .im (K.int IntKind.i64)], .tup [none, none], false, fun _ => none⟩
noncomputable def local_valuation.fns (k : Nat) : Go.Vx.Fns := []
theorem local_valuation.fns_good (k : Nat) : (local_valuation.fns k).good Try.prog := Go.Vx.Fns.good_nil
def local_valuation.ann : List (Nat × Ann) := [(1000002, ⟨rg [(2, 4), (7, 11)], []⟩)]
noncomputable def local_valuation.lay : Lay := .nil
theorem local_valuation.lay_good : local_valuation.lay.good Try.prog := True.intro
noncomputable def local_valuation.pl : Pl := ⟨0, local_valuation.lay, local_valuation.ann, (Go.Vx.bodyOf Try.f42)⟩
noncomputable def local_valuation.l0 (n_ k : Nat)  (a1 : Int) (v0 : Int) (v2 : Int) : Option (Int × Int) :=
  loopK n_ (execP Try.prog (local_valuation.fns k) k (plC [1, 1, 0, 0, 0] local_valuation.pl)) (nmP (plC [1, 1, 0, 0, 0] local_valuation.pl)) ({ tmps := [AV.val (Value.int IntKind.i64 v0), AV.val (Value.int IntKind.i64 a1)] ++ dz 4 ++ [AV.val (Value.int IntKind.i64 v2)] ++ dz 11, ents := [], nx := 0 }) (contP Try.prog (local_valuation.fns k) k [1, 1, 0, 0] [] local_valuation.pl (finK Try.prog (local_valuation.s0) Try.f42.results.toList))
theorem local_valuation.l0_succ (n0 k : Nat)  (a1 : Int) (v0 : Int) (v2 : Int) : local_valuation.l0 (n0 + 1) k  a1 (v0) (v2) = (if a1 = 0 then none else (if (divF BinOp.rem IntKind.i64 v0 a1 == 0) = true then (if a1 = 0 then none else (local_valuation.l0 n0 k  a1 (divF BinOp.quo IntKind.i64 v0 a1) (IntKind.wrap IntKind.i64 (v2 + 1)))) else some ((v2, v0)))) := by kernel_rfl
noncomputable def local_valuation.m0 (k : Nat) (a0 : Int) (a1 : Int) : Option (Int × Int) :=
  execFI Try.prog (local_valuation.fns k) local_valuation.lay local_valuation.ann k (local_valuation.s0) 18 Try.f42.results.toList (Go.Vx.bodyOf Try.f42) (a0, a1)
noncomputable def local_valuation.m : (Nat) → (Int) → (Int) → Option (Int × Int) := hide local_valuation.m0
theorem local_valuation.m_hid : local_valuation.m = local_valuation.m0 := hide_eq _
theorem local_valuation.m_eq (k : Nat) (a0 : Int) (a1 : Int) : local_valuation.m k a0 a1 = (local_valuation.l0 k k  a1 (a0) (0)) := by
  rw [local_valuation.m_hid]
  kernel_rfl
noncomputable def local_valuation.sp (k : Nat) : Go.Vx.Spec := local_valuation.s0.runs fun (x : local_valuation.s0.argK.T) => local_valuation.m k x.1 x.2
theorem local_valuation.good (k : Nat) : Go.Vx.Good Try.prog 42 (local_valuation.sp k) := Go.Vx.good_runsI Try.func42 (show Try.f42.body = some (Go.Vx.bodyOf Try.f42) by kernel_rfl) (by kernel_rfl) (by kernel_rfl) (local_valuation.fns_good k) local_valuation.lay_good (by
  intro x r h
  have h : local_valuation.m k x.1 x.2 = some r := h
  rw [local_valuation.m_hid] at h
  exact h)
noncomputable def local_mod.s0 : Go.Vx.Spec := ⟨[none, none], (.pair (K.int IntKind.i64) (K.int IntKind.i64)), [.im (K.int IntKind.i64)], .one (none), false, fun _ => none⟩
noncomputable def local_mod.fns (k : Nat) : Go.Vx.Fns := []
theorem local_mod.fns_good (k : Nat) : (local_mod.fns k).good Try.prog := Go.Vx.Fns.good_nil
def local_mod.ann : List (Nat × Ann) := []
noncomputable def local_mod.lay : Lay := .nil
theorem local_mod.lay_good : local_mod.lay.good Try.prog := True.intro
noncomputable def local_mod.pl : Pl := ⟨0, local_mod.lay, local_mod.ann, (Go.Vx.bodyOf Try.f45)⟩
noncomputable def local_mod.m0 (k : Nat) (a0 : Int) (a1 : Int) : Option (Int) :=
  execFI Try.prog (local_mod.fns k) local_mod.lay local_mod.ann k (local_mod.s0) 12 Try.f45.results.toList (Go.Vx.bodyOf Try.f45) (a0, a1)
noncomputable def local_mod.m : (Nat) → (Int) → (Int) → Option (Int) := hide local_mod.m0
theorem local_mod.m_hid : local_mod.m = local_mod.m0 := hide_eq _
theorem local_mod.m_eq (k : Nat) (a0 : Int) (a1 : Int) : local_mod.m k a0 a1 = (if a1 = 0 then none else (if a1 = 0 then none else some (divF BinOp.rem IntKind.i64 (IntKind.wrap IntKind.i64 (divF BinOp.rem IntKind.i64 a0 a1 + a1)) a1))) := by
  rw [local_mod.m_hid]
  kernel_rfl
noncomputable def local_mod.sp (k : Nat) : Go.Vx.Spec := local_mod.s0.runs fun (x : local_mod.s0.argK.T) => local_mod.m k x.1 x.2
theorem local_mod.good (k : Nat) : Go.Vx.Good Try.prog 45 (local_mod.sp k) := Go.Vx.good_runsI Try.func45 (show Try.f45.body = some (Go.Vx.bodyOf Try.f45) by kernel_rfl) (by kernel_rfl) (by kernel_rfl) (local_mod.fns_good k) local_mod.lay_good (by
  intro x r h
  have h : local_mod.m k x.1 x.2 = some r := h
  rw [local_mod.m_hid] at h
  exact h)
noncomputable def local_Legendre.s0 : Go.Vx.Spec := ⟨[none, none], (.pair (K.int IntKind.i64) (K.int IntKind.i64)), [.im (K.int IntKind.i64), .im (K.int IntKind.i64)], .tup [none, none], false, fun _ => none⟩
noncomputable def local_Legendre.fns (k : Nat) : Go.Vx.Fns := [(40, local_prime.sp k), (45, local_mod.sp k)]
theorem local_Legendre.fns_good (k : Nat) : (local_Legendre.fns k).good Try.prog := (Go.Vx.Fns.good_cons (local_prime.good k) (Go.Vx.Fns.good_cons (local_mod.good k) Go.Vx.Fns.good_nil))
def local_Legendre.ann : List (Nat × Ann) := [(1000005, ⟨rg [(0, 1), (2, 4), (9, 39)], []⟩)]
noncomputable def local_Legendre.lay : Lay := .nil
theorem local_Legendre.lay_good : local_Legendre.lay.good Try.prog := True.intro
noncomputable def local_Legendre.pl : Pl := ⟨0, local_Legendre.lay, local_Legendre.ann, (Go.Vx.bodyOf Try.f43)⟩
noncomputable def local_Legendre.l0 (n_ k : Nat)  (a1 : Int) (v1 : Int) (v2 : Int) (v3 : Int) : Option (Int × Int) :=
  loopK n_ (execP Try.prog (local_Legendre.fns k) k (plC [1, 1, 1, 0, 1, 0, 0] local_Legendre.pl)) (nmP (plC [1, 1, 1, 0, 1, 0, 0] local_Legendre.pl)) ({ tmps := [AV.dead, AV.val (Value.int IntKind.i64 a1)] ++ dz 4 ++ [AV.val (Value.int IntKind.i64 v1), AV.val (Value.int IntKind.i64 v2), AV.val (Value.int IntKind.i64 v3)] ++ dz 39, ents := [], nx := 0 }) (contP Try.prog (local_Legendre.fns k) k [1, 1, 1, 0, 1, 0] [] local_Legendre.pl (finK Try.prog (local_Legendre.s0) Try.f43.results.toList))
theorem local_Legendre.l0_succ (n0 k : Nat)  (a1 : Int) (v1 : Int) (v2 : Int) (v3 : Int) : local_Legendre.l0 (n0 + 1) k  a1 (v1) (v2) (v3) = (if (decide (v3 > 0)) = true then (if (divF BinOp.rem IntKind.i64 v3 2 == 1) = true then (if a1 = 0 then none else (if a1 = 0 then none else (local_Legendre.l0 n0 k  a1 (divF BinOp.rem IntKind.i64 (IntKind.wrap IntKind.i64 (v1 * v2)) a1) (divF BinOp.rem IntKind.i64 (IntKind.wrap IntKind.i64 (v2 * v2)) a1) (divF BinOp.quo IntKind.i64 v3 2)))) else (if a1 = 0 then none else (local_Legendre.l0 n0 k  a1 (v1) (divF BinOp.rem IntKind.i64 (IntKind.wrap IntKind.i64 (v2 * v2)) a1) (divF BinOp.quo IntKind.i64 v3 2)))) else (if (v1 == IntKind.wrap IntKind.i64 (a1 - 1)) = true then some ((-1, 0)) else some ((v1, 0)))) := by kernel_rfl
noncomputable def local_Legendre.m0 (k : Nat) (a0 : Int) (a1 : Int) : Option (Int × Int) :=
  execFI Try.prog (local_Legendre.fns k) local_Legendre.lay local_Legendre.ann k (local_Legendre.s0) 48 Try.f43.results.toList (Go.Vx.bodyOf Try.f43) (a0, a1)
noncomputable def local_Legendre.m : (Nat) → (Int) → (Int) → Option (Int × Int) := hide local_Legendre.m0
theorem local_Legendre.m_hid : local_Legendre.m = local_Legendre.m0 := hide_eq _
theorem local_Legendre.m_eq (k : Nat) (a0 : Int) (a1 : Int) : local_Legendre.m k a0 a1 = (if decide (a1 < 3) = true then some ((0, 1)) else (if decide (a1 > 1000) = true then some ((0, 1)) else (Option.bind (local_prime.m k a1) fun (r43 : Bool) => (if (!r43) = true then some ((0, 1)) else (Option.bind (local_mod.m k a0 a1) fun (r54 : Int) => (local_Legendre.l0 k k  a1 (1) (r54) (divF BinOp.quo IntKind.i64 (IntKind.wrap IntKind.i64 (a1 - 1)) 2))))))) := by
  rw [local_Legendre.m_hid]
  kernel_rfl
noncomputable def local_Legendre.sp (k : Nat) : Go.Vx.Spec := local_Legendre.s0.runs fun (x : local_Legendre.s0.argK.T) => local_Legendre.m k x.1 x.2
theorem local_Legendre.good (k : Nat) : Go.Vx.Good Try.prog 43 (local_Legendre.sp k) := Go.Vx.good_runsI Try.func43 (show Try.f43.body = some (Go.Vx.bodyOf Try.f43) by kernel_rfl) (by kernel_rfl) (by kernel_rfl) (local_Legendre.fns_good k) local_Legendre.lay_good (by
  intro x r h
  have h : local_Legendre.m k x.1 x.2 = some r := h
  rw [local_Legendre.m_hid] at h
  exact h)
noncomputable def local_Hilbert_1.s0 : Go.Vx.Spec := ⟨[none], (K.int IntKind.i64), [.im (K.bool)], .one (none), false, fun _ => none⟩
noncomputable def local_Hilbert_1.fns (k : Nat) : Go.Vx.Fns := [(45, local_mod.sp k)]
theorem local_Hilbert_1.fns_good (k : Nat) : (local_Hilbert_1.fns k).good Try.prog := (Go.Vx.Fns.good_cons (local_mod.good k) Go.Vx.Fns.good_nil)
def local_Hilbert_1.ann : List (Nat × Ann) := []
noncomputable def local_Hilbert_1.lay : Lay := .nil
theorem local_Hilbert_1.lay_good : local_Hilbert_1.lay.good Try.prog := True.intro
noncomputable def local_Hilbert_1.pl : Pl := ⟨0, local_Hilbert_1.lay, local_Hilbert_1.ann, (Go.Vx.bodyOf Try.f44)⟩
noncomputable def local_Hilbert_1.m0 (k : Nat) (a0 : Int) : Option (Bool) :=
  execFI Try.prog (local_Hilbert_1.fns k) local_Hilbert_1.lay local_Hilbert_1.ann k (local_Hilbert_1.s0) 11 Try.f44.results.toList (Go.Vx.bodyOf Try.f44) a0
noncomputable def local_Hilbert_1.m : (Nat) → (Int) → Option (Bool) := hide local_Hilbert_1.m0
theorem local_Hilbert_1.m_hid : local_Hilbert_1.m = local_Hilbert_1.m0 := hide_eq _
theorem local_Hilbert_1.m_eq (k : Nat) (a0 : Int) : local_Hilbert_1.m k a0 = (Option.bind (local_mod.m k a0 8) fun (r3 : Int) => (if (r3 == 3) = true then some (true) else (Option.bind (local_mod.m k a0 8) fun (r19 : Int) => some (r19 == 5)))) := by
  rw [local_Hilbert_1.m_hid]
  kernel_rfl
noncomputable def local_Hilbert_1.sp (k : Nat) : Go.Vx.Spec := local_Hilbert_1.s0.runs fun (x : local_Hilbert_1.s0.argK.T) => local_Hilbert_1.m k x
theorem local_Hilbert_1.good (k : Nat) : Go.Vx.Good Try.prog 44 (local_Hilbert_1.sp k) := Go.Vx.good_runsI Try.func44 (show Try.f44.body = some (Go.Vx.bodyOf Try.f44) by kernel_rfl) (by kernel_rfl) (by kernel_rfl) (local_Hilbert_1.fns_good k) local_Hilbert_1.lay_good (by
  intro x r h
  have h : local_Hilbert_1.m k x = some r := h
  rw [local_Hilbert_1.m_hid] at h
  exact h)
noncomputable def local_Hilbert.s0 : Go.Vx.Spec := ⟨[none, none, none], (.pair (K.int IntKind.i64) (.pair (K.int IntKind.i64) (K.int IntKind.i64))), [.im (K.int IntKind.i64), .im (K.int IntKind.i64)], .tup [none, none], false, fun _ => none⟩
noncomputable def local_Hilbert.fns (k : Nat) : Go.Vx.Fns := [(39, local_small.sp k), (40, local_prime.sp k), (41, local_sign.sp k), (42, local_valuation.sp k), (43, local_Legendre.sp k), (44, local_Hilbert_1.sp k), (45, local_mod.sp k)]
theorem local_Hilbert.fns_good (k : Nat) : (local_Hilbert.fns k).good Try.prog := (Go.Vx.Fns.good_cons (local_small.good k) (Go.Vx.Fns.good_cons (local_prime.good k) (Go.Vx.Fns.good_cons (local_sign.good k) (Go.Vx.Fns.good_cons (local_valuation.good k) (Go.Vx.Fns.good_cons (local_Legendre.good k) (Go.Vx.Fns.good_cons (local_Hilbert_1.good k) (Go.Vx.Fns.good_cons (local_mod.good k) Go.Vx.Fns.good_nil)))))))
def local_Hilbert.ann : List (Nat × Ann) := [(2000012, ⟨rg [(0, 2), (3, 5), (9, 2), (13, 117)], []⟩), (2000009, ⟨rg [(0, 2), (3, 5), (13, 117)], []⟩), (2000020, ⟨rg [(0, 9), (11, 6), (19, 111)], []⟩), (2000018, ⟨rg [(0, 8), (12, 5), (19, 111)], []⟩), (2000003, ⟨rg [(3, 127)], []⟩)]
noncomputable def local_Hilbert.lay : Lay := .nil
theorem local_Hilbert.lay_good : local_Hilbert.lay.good Try.prog := True.intro
noncomputable def local_Hilbert.pl : Pl := ⟨0, local_Hilbert.lay, local_Hilbert.ann, (Go.Vx.bodyOf Try.f25)⟩
noncomputable def local_Hilbert.j2 (k : Nat)  (a2 : Int) (r150 : Int × Int) (r159 : Int × Int) (v3 : Int) : Option (Int × Int) :=
  joinK (fun s_ => execP Try.prog (local_Hilbert.fns k) k (plC [1, 1, 1, 1, 1, 0, 1, 0, 1, 1] local_Hilbert.pl) s_ (contP Try.prog (local_Hilbert.fns k) k [1, 1, 1, 1, 1, 0, 1, 0, 1, 1] [] local_Hilbert.pl (finK Try.prog (local_Hilbert.s0) Try.f25.results.toList))) ({ tmps := dz 2 ++ [AV.val (Value.int IntKind.i64 a2)] ++ dz 5 ++ [AV.val (Value.int IntKind.i64 r150.fst)] ++ dz 2 ++ [AV.val (Value.int IntKind.i64 r159.snd), AV.val (Value.int IntKind.i64 v3)] ++ dz 117, ents := [], nx := 0 })
noncomputable def local_Hilbert.j1 (k : Nat)  (a2 : Int) (r150 : Int × Int) (r159 : Int × Int) (v5 : Int) : Option (Int × Int) :=
  joinK (fun s_ => execP Try.prog (local_Hilbert.fns k) k (plC [1, 1, 1, 1, 1, 0, 1, 0, 1] local_Hilbert.pl) s_ (contP Try.prog (local_Hilbert.fns k) k [1, 1, 1, 1, 1, 0, 1, 0, 1] [] local_Hilbert.pl (finK Try.prog (local_Hilbert.s0) Try.f25.results.toList))) ({ tmps := dz 2 ++ [AV.val (Value.int IntKind.i64 a2)] ++ dz 5 ++ [AV.val (Value.int IntKind.i64 r150.fst), AV.val (Value.int IntKind.i64 r150.snd), AV.val (Value.int IntKind.i64 r159.fst), AV.val (Value.int IntKind.i64 r159.snd), AV.val (Value.int IntKind.i64 v5)] ++ dz 117, ents := [], nx := 0 })
noncomputable def local_Hilbert.j4 (k : Nat)  (r150 : Int × Int) (r159 : Int × Int) (v2 : Int) : Option (Int × Int) :=
  joinK (fun s_ => execP Try.prog (local_Hilbert.fns k) k (plC [1, 1, 1, 1, 1, 1, 1, 1, 1] local_Hilbert.pl) s_ (contP Try.prog (local_Hilbert.fns k) k [1, 1, 1, 1, 1, 1, 1, 1, 1] [] local_Hilbert.pl (finK Try.prog (local_Hilbert.s0) Try.f25.results.toList))) ({ tmps := dz 9 ++ [AV.val (Value.int IntKind.i64 r150.snd), AV.val (Value.int IntKind.i64 r159.fst)] ++ dz 6 ++ [AV.fn 44 [], AV.val (Value.int IntKind.i64 v2)] ++ dz 111, ents := [], nx := 0 })
noncomputable def local_Hilbert.j3 (k : Nat)  (r150 : Int × Int) (r159 : Int × Int) (v4 : Int) : Option (Int × Int) :=
  joinK (fun s_ => execP Try.prog (local_Hilbert.fns k) k (plC [1, 1, 1, 1, 1, 1, 1, 1] local_Hilbert.pl) s_ (contP Try.prog (local_Hilbert.fns k) k [1, 1, 1, 1, 1, 1, 1, 1] [] local_Hilbert.pl (finK Try.prog (local_Hilbert.s0) Try.f25.results.toList))) ({ tmps := dz 8 ++ [AV.val (Value.int IntKind.i64 r150.fst), AV.val (Value.int IntKind.i64 r150.snd), AV.val (Value.int IntKind.i64 r159.fst), AV.val (Value.int IntKind.i64 r159.snd)] ++ dz 5 ++ [AV.fn 44 [], AV.val (Value.int IntKind.i64 v4)] ++ dz 111, ents := [], nx := 0 })
noncomputable def local_Hilbert.j0 (k : Nat)  (a0 : Int) (a1 : Int) (a2 : Int)  : Option (Int × Int) :=
  joinK (fun s_ => execP Try.prog (local_Hilbert.fns k) k (plC [1, 1] local_Hilbert.pl) s_ (contP Try.prog (local_Hilbert.fns k) k [1, 1] [] local_Hilbert.pl (finK Try.prog (local_Hilbert.s0) Try.f25.results.toList))) ({ tmps := [AV.val (Value.int IntKind.i64 a0), AV.val (Value.int IntKind.i64 a1), AV.val (Value.int IntKind.i64 a2)] ++ dz 127, ents := [], nx := 0 })
theorem local_Hilbert.j2_eq (k : Nat)  (a2 : Int) (r150 : Int × Int) (r159 : Int × Int) (v3 : Int) : local_Hilbert.j2 k  a2 r150 r159 (v3) = (if (divF BinOp.rem IntKind.i64 r150.fst 2 == 1) = true then (Option.bind (local_Legendre.m k r159.snd a2) fun (r247 : Int × Int) => some ((IntKind.wrap IntKind.i64 (v3 * r247.fst), 0))) else some ((v3, 0))) := by
  unfold local_Hilbert.j2
  rw [joinK_eq]
  kernel_rfl
theorem local_Hilbert.j1_eq (k : Nat)  (a2 : Int) (r150 : Int × Int) (r159 : Int × Int) (v5 : Int) : local_Hilbert.j1 k  a2 r150 r159 (v5) = (if (divF BinOp.rem IntKind.i64 r159.fst 2 == 1) = true then (Option.bind (local_Legendre.m k r150.snd a2) fun (r272 : Int × Int) => (local_Hilbert.j2 k  a2 r150 r159 (IntKind.wrap IntKind.i64 (v5 * r272.fst)))) else (local_Hilbert.j2 k  a2 r150 r159 (v5))) := by
  unfold local_Hilbert.j1
  rw [joinK_eq]
  kernel_rfl
theorem local_Hilbert.j4_eq (k : Nat)  (r150 : Int × Int) (r159 : Int × Int) (v2 : Int) : local_Hilbert.j4 k  r150 r159 (v2) = (if (divF BinOp.rem IntKind.i64 r159.fst 2 == 1) = true then (Option.bind (local_Hilbert_1.m k r150.snd) fun (r387 : Bool) => (Option.bind (local_sign.m k r387) fun (r389 : Int) => some ((IntKind.wrap IntKind.i64 (v2 * r389), 0)))) else some ((v2, 0))) := by
  unfold local_Hilbert.j4
  rw [joinK_eq]
  kernel_rfl
theorem local_Hilbert.j3_eq (k : Nat)  (r150 : Int × Int) (r159 : Int × Int) (v4 : Int) : local_Hilbert.j3 k  r150 r159 (v4) = (if (divF BinOp.rem IntKind.i64 r150.fst 2 == 1) = true then (Option.bind (local_Hilbert_1.m k r159.snd) fun (r408 : Bool) => (Option.bind (local_sign.m k r408) fun (r410 : Int) => (local_Hilbert.j4 k  r150 r159 (IntKind.wrap IntKind.i64 (v4 * r410))))) else (local_Hilbert.j4 k  r150 r159 (v4))) := by
  unfold local_Hilbert.j3
  rw [joinK_eq]
  kernel_rfl
theorem local_Hilbert.j0_eq (k : Nat)  (a0 : Int) (a1 : Int) (a2 : Int)  : local_Hilbert.j0 k  a0 a1 a2  = (if (a2 == 0) = true then (if decide (a0 < 0) = true then (Option.bind (local_sign.m k (decide (a1 < 0))) fun (r133 : Int) => some ((r133, 0))) else (Option.bind (local_sign.m k false) fun (r143 : Int) => some ((r143, 0)))) else (Option.bind (local_valuation.m k a0 a2) fun (r150 : Int × Int) => (Option.bind (local_valuation.m k a1 a2) fun (r159 : Int × Int) => (if (decide (a2 > 2)) = true then (if (divF BinOp.rem IntKind.i64 a2 4 == 3) = true then (if (divF BinOp.rem IntKind.i64 r150.fst 2 == 1) = true then (Option.bind (local_sign.m k (divF BinOp.rem IntKind.i64 r159.fst 2 == 1)) fun (r307 : Int) => (local_Hilbert.j1 k  a2 r150 r159 (r307))) else (Option.bind (local_sign.m k false) fun (r317 : Int) => (local_Hilbert.j1 k  a2 r150 r159 (r317)))) else (Option.bind (local_sign.m k false) fun (r336 : Int) => (local_Hilbert.j1 k  a2 r150 r159 (r336)))) else (Option.bind (local_mod.m k r150.snd 4) fun (r415 : Int) => (if (r415 == 3) = true then (Option.bind (local_mod.m k r159.snd 4) fun (r422 : Int) => (Option.bind (local_sign.m k (r422 == 3)) fun (r428 : Int) => (local_Hilbert.j3 k  r150 r159 (r428)))) else (Option.bind (local_sign.m k false) fun (r438 : Int) => (local_Hilbert.j3 k  r150 r159 (r438))))))))) := by
  unfold local_Hilbert.j0
  rw [joinK_eq]
  kernel_rfl
noncomputable def local_Hilbert.m0 (k : Nat) (a0 : Int) (a1 : Int) (a2 : Int) : Option (Int × Int) :=
  execFI Try.prog (local_Hilbert.fns k) local_Hilbert.lay local_Hilbert.ann k (local_Hilbert.s0) 130 Try.f25.results.toList (Go.Vx.bodyOf Try.f25) (a0, a1, a2)
noncomputable def local_Hilbert.m : (Nat) → (Int) → (Int) → (Int) → Option (Int × Int) := hide local_Hilbert.m0
theorem local_Hilbert.m_hid : local_Hilbert.m = local_Hilbert.m0 := hide_eq _
theorem local_Hilbert.m_eq (k : Nat) (a0 : Int) (a1 : Int) (a2 : Int) : local_Hilbert.m k a0 a1 a2 = (Option.bind (local_small.m k a0) fun (r442 : Bool) => (if (!r442) = true then some ((0, 1)) else (Option.bind (local_small.m k a1) fun (r477 : Bool) => (if (!r477) = true then some ((0, 1)) else (if (a2 != 0) = true then (if decide (a2 > 1000) = true then some ((0, 1)) else (Option.bind (local_prime.m k a2) fun (r534 : Bool) => (if (!r534) = true then some ((0, 1)) else (local_Hilbert.j0 k  a0 a1 a2 )))) else (local_Hilbert.j0 k  a0 a1 a2 )))))) := by
  rw [local_Hilbert.m_hid]
  kernel_rfl
noncomputable def local_Hilbert.sp (k : Nat) : Go.Vx.Spec := local_Hilbert.s0.runs fun (x : local_Hilbert.s0.argK.T) => local_Hilbert.m k x.1 x.2.1 x.2.2
theorem local_Hilbert.good (k : Nat) : Go.Vx.Good Try.prog 25 (local_Hilbert.sp k) := Go.Vx.good_runsI Try.func25 (show Try.f25.body = some (Go.Vx.bodyOf Try.f25) by kernel_rfl) (by kernel_rfl) (by kernel_rfl) (local_Hilbert.fns_good k) local_Hilbert.lay_good (by
  intro x r h
  have h : local_Hilbert.m k x.1 x.2.1 x.2.2 = some r := h
  rw [local_Hilbert.m_hid] at h
  exact h)
noncomputable def local_Square.s0 : Go.Vx.Spec := ⟨[none], (K.int IntKind.i64), [.im (K.bool)], .one (none), false, fun _ => none⟩
noncomputable def local_Square.fns (k : Nat) : Go.Vx.Fns := [(48, cRoot.sp k)]
theorem local_Square.fns_good (k : Nat) : (local_Square.fns k).good Try.prog := (Go.Vx.Fns.good_cons (cRoot.good k) Go.Vx.Fns.good_nil)
def local_Square.ann : List (Nat × Ann) := []
noncomputable def local_Square.lay : Lay := .nil
theorem local_Square.lay_good : local_Square.lay.good Try.prog := True.intro
noncomputable def local_Square.pl : Pl := ⟨0, local_Square.lay, local_Square.ann, (Go.Vx.bodyOf Try.f62)⟩
noncomputable def local_Square.m0 (k : Nat) (a0 : Int) : Option (Bool) :=
  execFI Try.prog (local_Square.fns k) local_Square.lay local_Square.ann k (local_Square.s0) 11 Try.f62.results.toList (Go.Vx.bodyOf Try.f62) a0
noncomputable def local_Square.m : (Nat) → (Int) → Option (Bool) := hide local_Square.m0
theorem local_Square.m_hid : local_Square.m = local_Square.m0 := hide_eq _
theorem local_Square.m_eq (k : Nat) (a0 : Int) : local_Square.m k a0 = (Option.bind (cRoot.h a0) fun (r3 : Int × Bool) => some (r3.snd)) := by
  rw [local_Square.m_hid]
  kernel_rfl
noncomputable def local_Square.sp (k : Nat) : Go.Vx.Spec := local_Square.s0.runs fun (x : local_Square.s0.argK.T) => local_Square.m k x
theorem local_Square.good (k : Nat) : Go.Vx.Good Try.prog 62 (local_Square.sp k) := Go.Vx.good_runsI Try.func62 (show Try.f62.body = some (Go.Vx.bodyOf Try.f62) by kernel_rfl) (by kernel_rfl) (by kernel_rfl) (local_Square.fns_good k) local_Square.lay_good (by
  intro x r h
  have h : local_Square.m k x = some r := h
  rw [local_Square.m_hid] at h
  exact h)
noncomputable def local_Solve.s0 : Go.Vx.Spec := ⟨[none, none], (.pair (K.int IntKind.i64) (K.int IntKind.i64)), [.im (K.pair K.bool (K.pair (K.pair (K.int IntKind.i64) (K.pair (K.int IntKind.i64) (K.int IntKind.i64))) (K.int IntKind.i64))), .im (K.int IntKind.i64)], .tup [some 5, none], false, fun _ => none⟩
noncomputable def local_Solve.fns (k : Nat) : Go.Vx.Fns := [(39, local_small.sp k), (25, local_Hilbert.sp k), (40, local_prime.sp k), (48, cRoot.sp k)]
theorem local_Solve.fns_good (k : Nat) : (local_Solve.fns k).good Try.prog := (Go.Vx.Fns.good_cons (local_small.good k) (Go.Vx.Fns.good_cons (local_Hilbert.good k) (Go.Vx.Fns.good_cons (local_prime.good k) (Go.Vx.Fns.good_cons (cRoot.good k) Go.Vx.Fns.good_nil))))
def local_Solve.ann : List (Nat × Ann) := [(2000015, ⟨rg [(0, 2), (5, 1), (10, 19), (30, 2), (33, 23), (57, 8)], []⟩), (1000011, ⟨rg [(0, 2), (5, 1), (8, 21), (30, 2), (33, 32)], []⟩), (1000008, ⟨rg [(0, 2), (5, 1), (7, 22), (30, 35)], []⟩), (2000005, ⟨rg [(0, 2), (5, 1), (7, 58)], []⟩)]
def local_Solve.ann1 : List (Nat × Ann) := [(1000001, ⟨rg [(3, 3), (7, 28)], []⟩)]
def local_Solve.ann2 : List (Nat × Ann) := []
noncomputable def local_Solve.lay : Lay := (.cons 4 3 46 [0, 1, 5, 7, 8, 9, 10, 11, 12, 13, 14, 15, 16, 17, 18, 19, 20, 21, 22, 23, 24, 25, 26, 27, 28, 29, 30, 31, 32, 33, 34, 35, 36, 37, 38, 39, 40, 41, 42, 43, 44, 45, 46, 47, 48, 49, 50, 51, 52, 53, 54, 55, 56, 57, 58, 59, 60, 61, 62, 63, 64] Try.f46 local_Solve.ann1 (.cons 3 21 47 [3, 4, 5, 7, 8, 9, 10, 11, 12, 13, 14, 15, 16, 17, 18, 19, 20, 21, 22, 23, 24, 25, 26, 27, 28, 30, 31, 32, 33, 34] Try.f47 local_Solve.ann2 .nil .nil) .nil)
theorem local_Solve.lay_good : local_Solve.lay.good Try.prog := ⟨⟨Try.func46, by kernel_rfl, by kernel_rfl⟩, ⟨⟨Try.func47, by kernel_rfl, by kernel_rfl⟩, True.intro, True.intro⟩, True.intro⟩
noncomputable def local_Solve.pl : Pl := ⟨0, local_Solve.lay, local_Solve.ann, (Go.Vx.bodyOf Try.f26)⟩
noncomputable def local_Solve.j1 (k : Nat) (n0 : Nat) (n1 : Nat) (a0 : Int) (a1 : Int) (v7 : Bool) (v11 : Int) (v0 : Int) (v2 : Int) (r1193 : Int × Bool) (v5 : Bool) : Option ((Bool × (Int × Int × Int) × Int) × Int) :=
  joinK (fun s_ => execP Try.prog (local_Solve.fns k) k (plC [1, 0, 1, 1, 1, 1, 1, 0, 1, 0, 0, 1, 1, 0, 0, 1, 1, 0, 0, 1, 1, 0, 0, 1, 1, 1] local_Solve.pl) s_ (contP Try.prog (local_Solve.fns k) k [1, 0, 1, 1, 1, 1, 1, 0, 1, 0, 0, 1, 1, 0, 0, 1, 1, 0, 0, 1, 1, 0, 0, 1, 1, 1] [n0, n1] local_Solve.pl (finK Try.prog (local_Solve.s0) Try.f26.results.toList))) ({ tmps := dz 2 ++ [AV.ptr 0 0, AV.ptr 1 0, AV.ptr 2 0, AV.dead, AV.ptr 3 0, AV.val (Value.int IntKind.i64 v0), AV.val (Value.int IntKind.i64 v2), AV.val (Value.int IntKind.i64 r1193.fst)] ++ dz 19 ++ [AV.val (Value.int IntKind.i64 v0)] ++ dz 2 ++ [AV.val (Value.int IntKind.i64 v2)] ++ dz 23 ++ [AV.val (Value.bool v5)] ++ dz 8, ents := [(0, Ent.box 3 [AV.val (Value.int IntKind.i64 a0)]), (1, Ent.box 3 [AV.val (Value.int IntKind.i64 a1)]), (2, Ent.box 58 [AV.val (Value.bool false), AV.val (Value.int IntKind.i64 0), AV.val (Value.int IntKind.i64 0), AV.val (Value.int IntKind.i64 0), AV.val (Value.int IntKind.i64 0)]), (3, Ent.box 58 [AV.val (Value.bool v7), AV.val (Value.int IntKind.i64 0), AV.val (Value.int IntKind.i64 0), AV.val (Value.int IntKind.i64 0), AV.val (Value.int IntKind.i64 v11)])], nx := 4 })
noncomputable def local_Solve.l1 (n_ k : Nat) (n0 : Nat) (a0 : Int) (a1 : Int) (v7 : Bool) (v11 : Int) (v0 : Int) (v2 : Int) : Option ((Bool × (Int × Int × Int) × Int) × Int) :=
  loopK n_ (execP Try.prog (local_Solve.fns k) k (plC [1, 0, 1, 1, 1, 1, 1, 0, 1, 0, 0, 1, 1, 0, 0, 1, 1, 0, 0] local_Solve.pl)) (nmP (plC [1, 0, 1, 1, 1, 1, 1, 0, 1, 0, 0, 1, 1, 0, 0, 1, 1, 0, 0] local_Solve.pl)) ({ tmps := dz 2 ++ [AV.ptr 0 0, AV.ptr 1 0, AV.ptr 2 0, AV.dead, AV.ptr 3 0, AV.val (Value.int IntKind.i64 v0)] ++ dz 21 ++ [AV.val (Value.int IntKind.i64 v0)] ++ dz 2 ++ [AV.val (Value.int IntKind.i64 v2)] ++ dz 32, ents := [(0, Ent.box 3 [AV.val (Value.int IntKind.i64 a0)]), (1, Ent.box 3 [AV.val (Value.int IntKind.i64 a1)]), (2, Ent.box 58 [AV.val (Value.bool false), AV.val (Value.int IntKind.i64 0), AV.val (Value.int IntKind.i64 0), AV.val (Value.int IntKind.i64 0), AV.val (Value.int IntKind.i64 0)]), (3, Ent.box 58 [AV.val (Value.bool v7), AV.val (Value.int IntKind.i64 0), AV.val (Value.int IntKind.i64 0), AV.val (Value.int IntKind.i64 0), AV.val (Value.int IntKind.i64 v11)])], nx := 4 }) (contP Try.prog (local_Solve.fns k) k [1, 0, 1, 1, 1, 1, 1, 0, 1, 0, 0, 1, 1, 0, 0, 1, 1, 0] [n0] local_Solve.pl (finK Try.prog (local_Solve.s0) Try.f26.results.toList))
noncomputable def local_Solve.l0 (n_ k : Nat)  (a0 : Int) (a1 : Int) (v7 : Bool) (v11 : Int) (v0 : Int) : Option ((Bool × (Int × Int × Int) × Int) × Int) :=
  loopK n_ (execP Try.prog (local_Solve.fns k) k (plC [1, 0, 1, 1, 1, 1, 1, 0, 1, 0, 0] local_Solve.pl)) (nmP (plC [1, 0, 1, 1, 1, 1, 1, 0, 1, 0, 0] local_Solve.pl)) ({ tmps := dz 2 ++ [AV.ptr 0 0, AV.ptr 1 0, AV.ptr 2 0, AV.dead, AV.ptr 3 0] ++ dz 22 ++ [AV.val (Value.int IntKind.i64 v0)] ++ dz 35, ents := [(0, Ent.box 3 [AV.val (Value.int IntKind.i64 a0)]), (1, Ent.box 3 [AV.val (Value.int IntKind.i64 a1)]), (2, Ent.box 58 [AV.val (Value.bool false), AV.val (Value.int IntKind.i64 0), AV.val (Value.int IntKind.i64 0), AV.val (Value.int IntKind.i64 0), AV.val (Value.int IntKind.i64 0)]), (3, Ent.box 58 [AV.val (Value.bool v7), AV.val (Value.int IntKind.i64 0), AV.val (Value.int IntKind.i64 0), AV.val (Value.int IntKind.i64 0), AV.val (Value.int IntKind.i64 v11)])], nx := 4 }) (contP Try.prog (local_Solve.fns k) k [1, 0, 1, 1, 1, 1, 1, 0, 1, 0] [] local_Solve.pl (finK Try.prog (local_Solve.s0) Try.f26.results.toList))
noncomputable def local_Solve.j0 (k : Nat)  (a0 : Int) (a1 : Int) (v7 : Bool) (v11 : Int) : Option ((Bool × (Int × Int × Int) × Int) × Int) :=
  joinK (fun s_ => execP Try.prog (local_Solve.fns k) k (plC [1, 0, 1, 1, 1] local_Solve.pl) s_ (contP Try.prog (local_Solve.fns k) k [1, 0, 1, 1, 1] [] local_Solve.pl (finK Try.prog (local_Solve.s0) Try.f26.results.toList))) ({ tmps := dz 2 ++ [AV.ptr 0 0, AV.ptr 1 0, AV.ptr 2 0, AV.dead, AV.ptr 3 0] ++ dz 58, ents := [(0, Ent.box 3 [AV.val (Value.int IntKind.i64 a0)]), (1, Ent.box 3 [AV.val (Value.int IntKind.i64 a1)]), (2, Ent.box 58 [AV.val (Value.bool false), AV.val (Value.int IntKind.i64 0), AV.val (Value.int IntKind.i64 0), AV.val (Value.int IntKind.i64 0), AV.val (Value.int IntKind.i64 0)]), (3, Ent.box 58 [AV.val (Value.bool v7), AV.val (Value.int IntKind.i64 0), AV.val (Value.int IntKind.i64 0), AV.val (Value.int IntKind.i64 0), AV.val (Value.int IntKind.i64 v11)])], nx := 4 })
noncomputable def local_Solve.l2 (n_ k : Nat)  (a0 : Int) (a1 : Int) (v2 : Int) : Option ((Bool × (Int × Int × Int) × Int) × Int) :=
  loopK n_ (execP Try.prog (local_Solve.fns k) k (plC [1, 0, 1, 1, 0, 188419, 1, 0, 0] local_Solve.pl)) (nmP (plC [1, 0, 1, 1, 0, 188419, 1, 0, 0] local_Solve.pl)) ({ tmps := [AV.val (Value.int IntKind.i64 a0), AV.val (Value.int IntKind.i64 a1), AV.fn 47 [AV.ptr 1 0, AV.ptr 2 0, AV.ptr 3 0]] ++ dz 3 ++ [AV.val (Value.int IntKind.i64 v2)] ++ dz 28, ents := [(0, Ent.ghost 0 [AV.dead, AV.dead, AV.ptr 1 0, AV.ptr 2 0, AV.ptr 4 0, AV.dead, AV.ptr 3 0, AV.dead, AV.dead, AV.dead, AV.dead, AV.dead, AV.dead, AV.dead, AV.dead, AV.dead, AV.dead, AV.dead, AV.dead, AV.dead, AV.dead, AV.dead, AV.dead, AV.dead, AV.dead, AV.dead, AV.dead, AV.dead, AV.dead, AV.dead, AV.dead, AV.dead, AV.dead, AV.dead, AV.dead, AV.dead, AV.dead, AV.dead, AV.dead, AV.dead, AV.dead, AV.dead, AV.dead, AV.dead, AV.dead, AV.dead, AV.dead, AV.dead, AV.dead, AV.dead, AV.dead, AV.dead, AV.dead, AV.dead, AV.dead, AV.dead, AV.dead, AV.dead, AV.dead, AV.dead, AV.dead, AV.dead, AV.dead, AV.dead, AV.dead]), (1, Ent.box 3 [AV.val (Value.int IntKind.i64 a0)]), (2, Ent.box 3 [AV.val (Value.int IntKind.i64 a1)]), (3, Ent.box 58 [AV.val (Value.bool true), AV.val (Value.int IntKind.i64 0), AV.val (Value.int IntKind.i64 0), AV.val (Value.int IntKind.i64 0), AV.val (Value.int IntKind.i64 0)]), (4, Ent.box 58 [AV.val (Value.bool false), AV.val (Value.int IntKind.i64 0), AV.val (Value.int IntKind.i64 0), AV.val (Value.int IntKind.i64 0), AV.val (Value.int IntKind.i64 0)])], nx := 5 }) (contP Try.prog (local_Solve.fns k) k [1, 0, 1, 1, 0, 188419, 1, 0] [] local_Solve.pl (finK Try.prog (local_Solve.s0) Try.f26.results.toList))
theorem local_Solve.j1_eq (k : Nat) (n0 : Nat) (n1 : Nat) (a0 : Int) (a1 : Int) (v7 : Bool) (v11 : Int) (v0 : Int) (v2 : Int) (r1193 : Int × Bool) (v5 : Bool) : local_Solve.j1 k n0 n1 a0 a1 v7 v11 v0 v2 r1193 (v5) = (if (v5) = true then some (((v7, (v0, v2, r1193.fst), v11), 0)) else (local_Solve.l1 n1 k n0 a0 a1 v7 v11 v0 (IntKind.wrap IntKind.i64 (v2 + 1)))) := by
  unfold local_Solve.j1
  rw [joinK_eq]
  kernel_rfl
theorem local_Solve.l1_succ (n1 k : Nat) (n0 : Nat) (a0 : Int) (a1 : Int) (v7 : Bool) (v11 : Int) (v0 : Int) (v2 : Int) : local_Solve.l1 (n1 + 1) k n0 a0 a1 v7 v11 v0 (v2) = (if (decide (v2 < 15)) = true then (Option.bind (cRoot.h (IntKind.wrap IntKind.i64 (IntKind.wrap IntKind.i64 (IntKind.wrap IntKind.i64 (a0 * v0) * v0) + IntKind.wrap IntKind.i64 (IntKind.wrap IntKind.i64 (a1 * v2) * v2)))) fun (r1193 : Int × Bool) => (if r1193.snd = true then (local_Solve.j1 k n0 n1 a0 a1 v7 v11 v0 v2 r1193 (decide (IntKind.wrap IntKind.i64 (v0 + v2) > 0))) else (local_Solve.j1 k n0 n1 a0 a1 v7 v11 v0 v2 r1193 (false)))) else (local_Solve.l0 n0 k  a0 a1 v7 v11 (IntKind.wrap IntKind.i64 (v0 + 1)))) := by kernel_rfl
theorem local_Solve.l0_succ (n0 k : Nat)  (a0 : Int) (a1 : Int) (v7 : Bool) (v11 : Int) (v0 : Int) : local_Solve.l0 (n0 + 1) k  a0 a1 v7 v11 (v0) = (if (decide (v0 < 15)) = true then (local_Solve.l1 k k n0 a0 a1 v7 v11 v0 (0)) else some (((v7, (0, 0, 0), v11), 0))) := by kernel_rfl
theorem local_Solve.j0_eq (k : Nat)  (a0 : Int) (a1 : Int) (v7 : Bool) (v11 : Int) : local_Solve.j0 k  a0 a1 (v7) (v11) = (if (!v7) = true then some (((v7, (0, 0, 0), v11), 0)) else (local_Solve.l0 k k  a0 a1 v7 v11 (0))) := by
  unfold local_Solve.j0
  rw [joinK_eq]
  kernel_rfl
theorem local_Solve.l2_succ (n2 k : Nat)  (a0 : Int) (a1 : Int) (v2 : Int) : local_Solve.l2 (n2 + 1) k  a0 a1 (v2) = (if (decide (v2 ≤ 200)) = true then (if (v2 == 0) = true then (Option.bind (local_Hilbert.m k a0 a1 v2) fun (r1606 : Int × Int) => (if (r1606.fst == -1) = true then (local_Solve.j0 k  a0 a1 (false) (v2)) else (local_Solve.l2 n2 k  a0 a1 (IntKind.wrap IntKind.i64 (v2 + 1))))) else (if (v2 == 2) = true then (Option.bind (local_Hilbert.m k a0 a1 v2) fun (r1669 : Int × Int) => (if (r1669.fst == -1) = true then (local_Solve.j0 k  a0 a1 (false) (v2)) else (local_Solve.l2 n2 k  a0 a1 (IntKind.wrap IntKind.i64 (v2 + 1))))) else (Option.bind (local_prime.m k v2) fun (r1703 : Bool) => (if r1703 = true then (if v2 = 0 then none else (if (divF BinOp.rem IntKind.i64 (IntKind.wrap IntKind.i64 (a0 * a1)) v2 == 0) = true then (Option.bind (local_Hilbert.m k a0 a1 v2) fun (r1735 : Int × Int) => (if (r1735.fst == -1) = true then (local_Solve.j0 k  a0 a1 (false) (v2)) else (local_Solve.l2 n2 k  a0 a1 (IntKind.wrap IntKind.i64 (v2 + 1))))) else (local_Solve.l2 n2 k  a0 a1 (IntKind.wrap IntKind.i64 (v2 + 1))))) else (local_Solve.l2 n2 k  a0 a1 (IntKind.wrap IntKind.i64 (v2 + 1))))))) else (local_Solve.j0 k  a0 a1 (true) (0))) := by kernel_rfl
noncomputable def local_Solve.m0 (k : Nat) (a0 : Int) (a1 : Int) : Option ((Bool × (Int × Int × Int) × Int) × Int) :=
  execFI Try.prog (local_Solve.fns k) local_Solve.lay local_Solve.ann k (local_Solve.s0) 65 Try.f26.results.toList (Go.Vx.bodyOf Try.f26) (a0, a1)
noncomputable def local_Solve.m : (Nat) → (Int) → (Int) → Option ((Bool × (Int × Int × Int) × Int) × Int) := hide local_Solve.m0
theorem local_Solve.m_hid : local_Solve.m = local_Solve.m0 := hide_eq _
theorem local_Solve.m_eq (k : Nat) (a0 : Int) (a1 : Int) : local_Solve.m k a0 a1 = (Option.bind (local_small.m k a0) fun (r6 : Bool) => (if (!r6) = true then some (((false, (0, 0, 0), 0), 1)) else (Option.bind (local_small.m k a1) fun (r24 : Bool) => (if (!r24) = true then some (((false, (0, 0, 0), 0), 1)) else (local_Solve.l2 k k  a0 a1 (0)))))) := by
  rw [local_Solve.m_hid]
  kernel_rfl
noncomputable def local_Solve.sp (k : Nat) : Go.Vx.Spec := local_Solve.s0.runs fun (x : local_Solve.s0.argK.T) => local_Solve.m k x.1 x.2
theorem local_Solve.good (k : Nat) : Go.Vx.Good Try.prog 26 (local_Solve.sp k) := Go.Vx.good_runsI Try.func26 (show Try.f26.body = some (Go.Vx.bodyOf Try.f26) by kernel_rfl) (by kernel_rfl) (by kernel_rfl) (local_Solve.fns_good k) local_Solve.lay_good (by
  intro x r h
  have h : local_Solve.m k x.1 x.2 = some r := h
  rw [local_Solve.m_hid] at h
  exact h)
end Go.Proofs.Ytokaigninenjhaa.V22
