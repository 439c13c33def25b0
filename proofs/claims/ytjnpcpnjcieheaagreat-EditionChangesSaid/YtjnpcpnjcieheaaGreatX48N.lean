/- Functions as the abstract executor tells them: equations, and contracts; printed by a tool. -/
import Derived.Test.YtjnpcpnjcieheaaGreatX48A
import Derived.Test.YtjnpcpnjcieheaaGreatVsF
import Derived.Test.YtjnpcpnjcieheaaGreatVsC
namespace Go.Proofs.YtjnpcpnjcieheaaGreat.V48
open Go Go.Vx Go.Proofs
set_option linter.unusedVariables false
set_option maxRecDepth 100000
noncomputable def names_known.s0 : Go.Vx.Spec := ⟨[none], (K.int IntKind.i64), [.im (K.bool)], .one (none), false, fun _ => none⟩
noncomputable def names_known.fns (k : Nat) : Go.Vx.Fns := []
theorem names_known.fns_good (k : Nat) : (names_known.fns k).good Tryz.prog := Go.Vx.Fns.good_nil
def names_known.ann : List (Nat × Ann) := []
noncomputable def names_known.lay : Lay := .nil
theorem names_known.lay_good : names_known.lay.good Tryz.prog := True.intro
noncomputable def names_known.pl : Pl := ⟨0, names_known.lay, names_known.ann, (Go.Vx.bodyOf Tryz.f84)⟩
noncomputable def names_known.m0 (k : Nat) (a0 : Int) : Option (Bool) :=
  execFI Tryz.prog (names_known.fns k) names_known.lay names_known.ann k (names_known.s0) 9 Tryz.f84.results.toList (Go.Vx.bodyOf Tryz.f84) a0
noncomputable def names_known.m : (Nat) → (Int) → Option (Bool) := hide names_known.m0
theorem names_known.m_hid : names_known.m = names_known.m0 := hide_eq _
theorem names_known.m_eq (k : Nat) (a0 : Int) : names_known.m k a0 = (if (a0 == 1) = true then some (true) else some (a0 == 2)) := by
  rw [names_known.m_hid]
  kernel_rfl
noncomputable def names_known.sp (k : Nat) : Go.Vx.Spec := names_known.s0.runs fun (x : names_known.s0.argK.T) => names_known.m k x
theorem names_known.good (k : Nat) : Go.Vx.Good Tryz.prog 84 (names_known.sp k) := Go.Vx.good_runsI Tryz.func84 (show Tryz.f84.body = some (Go.Vx.bodyOf Tryz.f84) by kernel_rfl) (by kernel_rfl) (by kernel_rfl) (names_known.fns_good k) names_known.lay_good (by
  intro x r h
  have h : names_known.m k x = some r := h
  rw [names_known.m_hid] at h
  exact h)
noncomputable def names_limits.s0 : Go.Vx.Spec := ⟨[some 3], (K.pair (K.int IntKind.i64) (K.pair (K.int IntKind.i64) (K.slice (K.pair (K.int IntKind.i64) (K.pair (K.int IntKind.i64) (K.slice (K.int IntKind.u64))))))), [.im (K.bool)], .one (none), false, fun _ => none⟩
noncomputable def names_limits.fns (k : Nat) : Go.Vx.Fns := []
theorem names_limits.fns_good (k : Nat) : (names_limits.fns k).good Tryz.prog := Go.Vx.Fns.good_nil
def names_limits.ann : List (Nat × Ann) := []
noncomputable def names_limits.lay : Lay := .nil
theorem names_limits.lay_good : names_limits.lay.good Tryz.prog := True.intro
noncomputable def names_limits.pl : Pl := ⟨0, names_limits.lay, names_limits.ann, (Go.Vx.bodyOf Tryz.f85)⟩
noncomputable def names_limits.m0 (k : Nat) (a0 : Int × Int × List (Int × Int × List Int)) : Option (Bool) :=
  execFI Tryz.prog (names_limits.fns k) names_limits.lay names_limits.ann k (names_limits.s0) 12 Tryz.f85.results.toList (Go.Vx.bodyOf Tryz.f85) a0
noncomputable def names_limits.m : (Nat) → (Int × Int × List (Int × Int × List Int)) → Option (Bool) := hide names_limits.m0
theorem names_limits.m_hid : names_limits.m = names_limits.m0 := hide_eq _
theorem names_limits.m_eq (k : Nat) (a0 : Int × Int × List (Int × Int × List Int)) : names_limits.m k a0 = (if decide ((↑(List.length a0.snd.snd) : Int) ≤ 100) = true then some (decide (a0.snd.fst ≤ 1000000)) else some (false)) := by
  rw [names_limits.m_hid]
  kernel_rfl
noncomputable def names_limits.sp (k : Nat) : Go.Vx.Spec := names_limits.s0.runs fun (x : names_limits.s0.argK.T) => names_limits.m k x
theorem names_limits.good (k : Nat) : Go.Vx.Good Tryz.prog 85 (names_limits.sp k) := Go.Vx.good_runsI Tryz.func85 (show Tryz.f85.body = some (Go.Vx.bodyOf Tryz.f85) by kernel_rfl) (by kernel_rfl) (by kernel_rfl) (names_limits.fns_good k) names_limits.lay_good (by
  intro x r h
  have h : names_limits.m k x = some r := h
  rw [names_limits.m_hid] at h
  exact h)
noncomputable def slices_Equal_uint64_uint64.s0 : Go.Vx.Spec := ⟨[none, none], (.pair (K.slice (K.int IntKind.u64)) (K.slice (K.int IntKind.u64))), [.im (K.bool)], .one (none), false, fun _ => none⟩
noncomputable def slices_Equal_uint64_uint64.fns (k : Nat) : Go.Vx.Fns := []
theorem slices_Equal_uint64_uint64.fns_good (k : Nat) : (slices_Equal_uint64_uint64.fns k).good Tryz.prog := Go.Vx.Fns.good_nil
def slices_Equal_uint64_uint64.ann : List (Nat × Ann) := [(1000004, ⟨rg [(2, 10), (14, 12)], []⟩)]
noncomputable def slices_Equal_uint64_uint64.lay : Lay := .nil
theorem slices_Equal_uint64_uint64.lay_good : slices_Equal_uint64_uint64.lay.good Tryz.prog := True.intro
noncomputable def slices_Equal_uint64_uint64.pl : Pl := ⟨0, slices_Equal_uint64_uint64.lay, slices_Equal_uint64_uint64.ann, (Go.Vx.bodyOf Tryz.f104)⟩
noncomputable def slices_Equal_uint64_uint64.l0 (n_ k : Nat)  (a0 : List Int) (a1 : List Int) (v3 : Int) : Option (Bool) :=
  loopK n_ (execP Tryz.prog (slices_Equal_uint64_uint64.fns k) k (plC [1, 1, 0, 1, 0, 0] slices_Equal_uint64_uint64.pl)) (nmP (plC [1, 1, 0, 1, 0, 0] slices_Equal_uint64_uint64.pl)) ({ tmps := [AV.sh (K.int IntKind.u64) a0, AV.sh (K.int IntKind.u64) a1] ++ dz 10 ++ [AV.val (Value.int IntKind.i64 (↑(List.length a0) : Int)), AV.val (Value.int IntKind.i64 v3)] ++ dz 12, ents := [], nx := 0 }) (contP Tryz.prog (slices_Equal_uint64_uint64.fns k) k [1, 1, 0, 1, 0] [] slices_Equal_uint64_uint64.pl (finK Tryz.prog (slices_Equal_uint64_uint64.s0) Tryz.f104.results.toList))
theorem slices_Equal_uint64_uint64.l0_succ (n0 k : Nat)  (a0 : List Int) (a1 : List Int) (v3 : Int) : slices_Equal_uint64_uint64.l0 (n0 + 1) k  a0 a1 (v3) = (if (decide (v3 < (↑(List.length a0) : Int))) = true then (if 0 ≤ v3 then (if v3 < (↑(List.length a0) : Int) then (if 0 ≤ v3 then (if v3 < (↑(List.length a1) : Int) then (if (List.getD a0 (Int.toNat v3) (Int.ofNat 0) != List.getD a1 (Int.toNat v3) (Int.ofNat 0)) = true then some (false) else (slices_Equal_uint64_uint64.l0 n0 k  a0 a1 (IntKind.wrap IntKind.i64 (v3 + 1)))) else none) else none) else none) else none) else some (true)) := by kernel_rfl
noncomputable def slices_Equal_uint64_uint64.m0 (k : Nat) (a0 : List Int) (a1 : List Int) : Option (Bool) :=
  execFI Tryz.prog (slices_Equal_uint64_uint64.fns k) slices_Equal_uint64_uint64.lay slices_Equal_uint64_uint64.ann k (slices_Equal_uint64_uint64.s0) 26 Tryz.f104.results.toList (Go.Vx.bodyOf Tryz.f104) (a0, a1)
noncomputable def slices_Equal_uint64_uint64.m : (Nat) → (List Int) → (List Int) → Option (Bool) := hide slices_Equal_uint64_uint64.m0
theorem slices_Equal_uint64_uint64.m_hid : slices_Equal_uint64_uint64.m = slices_Equal_uint64_uint64.m0 := hide_eq _
theorem slices_Equal_uint64_uint64.m_eq (k : Nat) (a0 : List Int) (a1 : List Int) : slices_Equal_uint64_uint64.m k a0 a1 = (if ((↑(List.length a0) : Int) != (↑(List.length a1) : Int)) = true then some (false) else (slices_Equal_uint64_uint64.l0 k k  a0 a1 (0))) := by
  rw [slices_Equal_uint64_uint64.m_hid]
  kernel_rfl
noncomputable def slices_Equal_uint64_uint64.sp (k : Nat) : Go.Vx.Spec := slices_Equal_uint64_uint64.s0.runs fun (x : slices_Equal_uint64_uint64.s0.argK.T) => slices_Equal_uint64_uint64.m k x.1 x.2
theorem slices_Equal_uint64_uint64.good (k : Nat) : Go.Vx.Good Tryz.prog 104 (slices_Equal_uint64_uint64.sp k) := Go.Vx.good_runsI Tryz.func104 (show Tryz.f104.body = some (Go.Vx.bodyOf Tryz.f104) by kernel_rfl) (by kernel_rfl) (by kernel_rfl) (slices_Equal_uint64_uint64.fns_good k) slices_Equal_uint64_uint64.lay_good (by
  intro x r h
  have h : slices_Equal_uint64_uint64.m k x.1 x.2 = some r := h
  rw [slices_Equal_uint64_uint64.m_hid] at h
  exact h)
noncomputable def names_equal.s0 : Go.Vx.Spec := ⟨[some 2, some 2], (.pair (K.pair (K.int IntKind.i64) (K.slice (K.int IntKind.u64))) (K.pair (K.int IntKind.i64) (K.slice (K.int IntKind.u64)))), [.im (K.bool)], .one (none), false, fun _ => none⟩
noncomputable def names_equal.fns (k : Nat) : Go.Vx.Fns := [(104, slices_Equal_uint64_uint64.sp k)]
theorem names_equal.fns_good (k : Nat) : (names_equal.fns k).good Tryz.prog := (Go.Vx.Fns.good_cons (slices_Equal_uint64_uint64.good k) Go.Vx.Fns.good_nil)
def names_equal.ann : List (Nat × Ann) := []
noncomputable def names_equal.lay : Lay := .nil
theorem names_equal.lay_good : names_equal.lay.good Tryz.prog := True.intro
noncomputable def names_equal.pl : Pl := ⟨0, names_equal.lay, names_equal.ann, (Go.Vx.bodyOf Tryz.f87)⟩
noncomputable def names_equal.m0 (k : Nat) (a0 : Int × List Int) (a1 : Int × List Int) : Option (Bool) :=
  execFI Tryz.prog (names_equal.fns k) names_equal.lay names_equal.ann k (names_equal.s0) 17 Tryz.f87.results.toList (Go.Vx.bodyOf Tryz.f87) (a0, a1)
noncomputable def names_equal.m : (Nat) → (Int × List Int) → (Int × List Int) → Option (Bool) := hide names_equal.m0
theorem names_equal.m_hid : names_equal.m = names_equal.m0 := hide_eq _
theorem names_equal.m_eq (k : Nat) (a0 : Int × List Int) (a1 : Int × List Int) : names_equal.m k a0 a1 = (if (a0.fst == a1.fst) = true then (Option.bind (slices_Equal_uint64_uint64.m k a0.snd a1.snd) fun (r19 : Bool) => some (r19)) else some (false)) := by
  rw [names_equal.m_hid]
  kernel_rfl
noncomputable def names_equal.sp (k : Nat) : Go.Vx.Spec := names_equal.s0.runs fun (x : names_equal.s0.argK.T) => names_equal.m k x.1 x.2
theorem names_equal.good (k : Nat) : Go.Vx.Good Tryz.prog 87 (names_equal.sp k) := Go.Vx.good_runsI Tryz.func87 (show Tryz.f87.body = some (Go.Vx.bodyOf Tryz.f87) by kernel_rfl) (by kernel_rfl) (by kernel_rfl) (names_equal.fns_good k) names_equal.lay_good (by
  intro x r h
  have h : names_equal.m k x.1 x.2 = some r := h
  rw [names_equal.m_hid] at h
  exact h)
noncomputable def names_Right.s0 : Go.Vx.Spec := ⟨[some 3], (K.pair (K.int IntKind.i64) (K.pair (K.int IntKind.i64) (K.slice (K.pair (K.int IntKind.i64) (K.pair (K.int IntKind.i64) (K.slice (K.int IntKind.u64))))))), [.im (K.int IntKind.i64)], .one (none), false, fun _ => none⟩
noncomputable def names_Right.fns (k : Nat) : Go.Vx.Fns := [(84, names_known.sp k), (85, names_limits.sp k), (86, cForm.sp k), (87, names_equal.sp k)]
theorem names_Right.fns_good (k : Nat) : (names_Right.fns k).good Tryz.prog := (Go.Vx.Fns.good_cons (names_known.good k) (Go.Vx.Fns.good_cons (names_limits.good k) (Go.Vx.Fns.good_cons (cForm.good k) (Go.Vx.Fns.good_cons (names_equal.good k) Go.Vx.Fns.good_nil))))
def names_Right.ann : List (Nat × Ann) := [(1000005, ⟨rg [(0, 1), (2, 1), (4, 20), (27, 48)], []⟩)]
def names_Right.ann1 : List (Nat × Ann) := []
def names_Right.ann2 : List (Nat × Ann) := []
def names_Right.ann3 : List (Nat × Ann) := [(1000002, ⟨rg [(2, 5), (9, 10)], []⟩)]
def names_Right.ann4 : List (Nat × Ann) := []
noncomputable def names_Right.lay : Lay := (.cons 8 28 89 [0, 2, 3, 4, 6, 7, 8, 9, 10, 11, 12, 13, 14, 15, 16, 17, 18, 19, 20, 21, 22, 23, 27, 28, 29, 30, 31, 32, 33, 34, 35, 36, 37, 38, 39, 40, 41, 42, 43, 44, 45, 46, 47, 48, 49, 50, 51, 52, 53, 54, 55, 56, 57, 58, 59, 60, 61, 63, 64, 65, 67, 68, 69, 70, 71, 72, 73, 74] Tryz.f89 names_Right.ann1 .nil (.cons 8 29 88 [0, 2, 3, 4, 6, 7, 8, 9, 10, 11, 12, 13, 14, 15, 16, 17, 18, 19, 20, 21, 22, 23, 27, 28, 29, 30, 31, 32, 33, 34, 35, 36, 37, 38, 39, 40, 41, 42, 43, 44, 45, 46, 47, 48, 49, 50, 51, 52, 53, 54, 55, 56, 57, 58, 59, 60, 61, 63, 64, 65, 66, 67, 68, 69, 70, 71, 72, 73, 74] Tryz.f88 names_Right.ann2 (.cons 1 2 72 [0, 1, 2, 3, 4, 5, 6, 7] Tryz.f72 names_Right.ann3 (.cons 4 5 105 [2, 3, 4, 6, 9, 10, 11, 12, 13, 14, 15, 16, 17, 18] Tryz.f105 names_Right.ann4 .nil .nil) .nil) .nil))
theorem names_Right.lay_good : names_Right.lay.good Tryz.prog := ⟨⟨Tryz.func89, by kernel_rfl, by kernel_rfl⟩, True.intro, ⟨⟨Tryz.func88, by kernel_rfl, by kernel_rfl⟩, ⟨⟨Tryz.func72, by kernel_rfl, by kernel_rfl⟩, ⟨⟨Tryz.func105, by kernel_rfl, by kernel_rfl⟩, True.intro, True.intro⟩, True.intro⟩, True.intro⟩⟩
noncomputable def names_Right.pl : Pl := ⟨0, names_Right.lay, names_Right.ann, (Go.Vx.bodyOf Tryz.f66)⟩
noncomputable def names_Right.l1 (n_ k : Nat) (n0 : Nat) (a0 : Int × Int × List (Int × Int × List Int)) (v3 : Int) (r696 : (Int × List Int) × List Int × Int) (v2 : Int) : Option (Int) :=
  loopK n_ (execP Tryz.prog (names_Right.fns k) k (plC [1, 1, 1, 0, 1, 0, 0, 1, 1, 0, 0, 1, 1, 0, 0, 360477, 1, 0, 294914, 1, 0, 1, 0, 0] names_Right.pl)) (nmP (plC [1, 1, 1, 0, 1, 0, 0, 1, 1, 0, 0, 1, 1, 0, 0, 360477, 1, 0, 294914, 1, 0, 1, 0, 0] names_Right.pl)) ({ tmps := [AV.sh (K.pair (K.int IntKind.i64) (K.pair (K.int IntKind.i64) (K.slice (K.int IntKind.u64)))) (List.take (Int.toNat v3) a0.snd.snd), AV.fn 105 [AV.ptr 2 0]] ++ dz 5 ++ [AV.val (Value.int IntKind.i64 (↑(List.length (List.take (Int.toNat v3) a0.snd.snd)) : Int)), AV.val (Value.int IntKind.i64 v2)] ++ dz 10, ents := [(0, Ent.ghost 1 [AV.dead, AV.dead, AV.dead, AV.dead, AV.dead, AV.dead, AV.dead, AV.dead]), (1, Ent.ghost 0 [AV.dead, AV.ptr 3 0, AV.dead, AV.dead, AV.dead, AV.ptr 4 0, AV.dead, AV.dead, AV.dead, AV.dead, AV.dead, AV.dead, AV.dead, AV.dead, AV.dead, AV.dead, AV.dead, AV.dead, AV.dead, AV.dead, AV.dead, AV.dead, AV.dead, AV.dead, AV.sh (K.pair (K.int IntKind.i64) (K.pair (K.int IntKind.i64) (K.slice (K.int IntKind.u64)))) a0.snd.snd, AV.val (Value.int IntKind.i64 (↑(List.length a0.snd.snd) : Int)), AV.val (Value.int IntKind.i64 v3), AV.dead, AV.dead, AV.dead, AV.dead, AV.dead, AV.dead, AV.dead, AV.dead, AV.dead, AV.dead, AV.dead, AV.dead, AV.dead, AV.dead, AV.dead, AV.dead, AV.dead, AV.dead, AV.dead, AV.dead, AV.dead, AV.dead, AV.dead, AV.dead, AV.dead, AV.dead, AV.dead, AV.dead, AV.dead, AV.dead, AV.dead, AV.dead, AV.dead, AV.dead, AV.dead, AV.val (Value.bool false), AV.dead, AV.dead, AV.dead, AV.dead, AV.dead, AV.dead, AV.dead, AV.dead, AV.dead, AV.dead, AV.dead, AV.dead]), (2, Ent.box 59 [AV.val (Value.int IntKind.i64 r696.fst.fst), AV.sh (K.int IntKind.u64) r696.fst.snd]), (3, Ent.box 34 [AV.val (Value.int IntKind.i64 a0.fst), AV.val (Value.int IntKind.i64 a0.snd.fst), AV.sh (K.pair (K.int IntKind.i64) (K.pair (K.int IntKind.i64) (K.slice (K.int IntKind.u64)))) a0.snd.snd]), (4, Ent.box 61 [AV.val (Value.int IntKind.i64 (List.getD a0.snd.snd (Int.toNat v3) (Int.ofNat 0, Int.ofNat 0, [])).fst), AV.val (Value.int IntKind.i64 (List.getD a0.snd.snd (Int.toNat v3) (Int.ofNat 0, Int.ofNat 0, [])).snd.fst), AV.sh (K.int IntKind.u64) (List.getD a0.snd.snd (Int.toNat v3) (Int.ofNat 0, Int.ofNat 0, [])).snd.snd])], nx := 5 }) (contP Tryz.prog (names_Right.fns k) k [1, 1, 1, 0, 1, 0, 0, 1, 1, 0, 0, 1, 1, 0, 0, 360477, 1, 0, 294914, 1, 0, 1, 0] [n0] names_Right.pl (finK Tryz.prog (names_Right.s0) Tryz.f66.results.toList))
noncomputable def names_Right.l0 (n_ k : Nat)  (a0 : Int × Int × List (Int × Int × List Int)) (v0 : Int) (v3 : Int) : Option (Int) :=
  loopK n_ (execP Tryz.prog (names_Right.fns k) k (plC [1, 1, 1, 0, 1, 0, 0] names_Right.pl)) (nmP (plC [1, 1, 1, 0, 1, 0, 0] names_Right.pl)) ({ tmps := [AV.dead, AV.ptr 0 0, AV.dead, AV.val (Value.int IntKind.i64 v0)] ++ dz 20 ++ [AV.sh (K.pair (K.int IntKind.i64) (K.pair (K.int IntKind.i64) (K.slice (K.int IntKind.u64)))) a0.snd.snd, AV.val (Value.int IntKind.i64 (↑(List.length a0.snd.snd) : Int)), AV.val (Value.int IntKind.i64 v3)] ++ dz 48, ents := [(0, Ent.box 34 [AV.val (Value.int IntKind.i64 a0.fst), AV.val (Value.int IntKind.i64 a0.snd.fst), AV.sh (K.pair (K.int IntKind.i64) (K.pair (K.int IntKind.i64) (K.slice (K.int IntKind.u64)))) a0.snd.snd])], nx := 1 }) (contP Tryz.prog (names_Right.fns k) k [1, 1, 1, 0, 1, 0] [] names_Right.pl (finK Tryz.prog (names_Right.s0) Tryz.f66.results.toList))
theorem names_Right.l1_succ (n1 k : Nat) (n0 : Nat) (a0 : Int × Int × List (Int × Int × List Int)) (v3 : Int) (r696 : (Int × List Int) × List Int × Int) (v2 : Int) : names_Right.l1 (n1 + 1) k n0 a0 v3 r696 (v2) = (if (decide (v2 < (↑(List.length (List.take (Int.toNat v3) a0.snd.snd)) : Int))) = true then (if 0 ≤ v2 then (if v2 < (↑(List.length (List.take (Int.toNat v3) a0.snd.snd)) : Int) then (Option.bind (names_equal.m k ((List.getD (List.take (Int.toNat v3) a0.snd.snd) (Int.toNat v2) (Int.ofNat 0, Int.ofNat 0, [])).snd.fst, (List.getD (List.take (Int.toNat v3) a0.snd.snd) (Int.toNat v2) (Int.ofNat 0, Int.ofNat 0, [])).snd.snd) (r696.fst.fst, r696.fst.snd)) fun (r959 : Bool) => (if (r959) = true then (if (decide (v2 ≥ 0)) = true then some (210) else (names_Right.l0 n0 k  a0 ((List.getD a0.snd.snd (Int.toNat v3) (Int.ofNat 0, Int.ofNat 0, [])).fst) (IntKind.wrap IntKind.i64 (v3 + 1)))) else (names_Right.l1 n1 k n0 a0 v3 r696 (IntKind.wrap IntKind.i64 (v2 + 1))))) else none) else none) else (names_Right.l0 n0 k  a0 ((List.getD a0.snd.snd (Int.toNat v3) (Int.ofNat 0, Int.ofNat 0, [])).fst) (IntKind.wrap IntKind.i64 (v3 + 1)))) := by kernel_rfl
theorem names_Right.l0_succ (n0 k : Nat)  (a0 : Int × Int × List (Int × Int × List Int)) (v0 : Int) (v3 : Int) : names_Right.l0 (n0 + 1) k  a0 (v0) (v3) = (if (decide (v3 < (↑(List.length a0.snd.snd) : Int))) = true then (if 0 ≤ v3 then (if v3 < (↑(List.length a0.snd.snd) : Int) then (Option.bind (cForm.m k a0.fst ((List.getD a0.snd.snd (Int.toNat v3) (Int.ofNat 0, Int.ofNat 0, [])).snd.fst, (List.getD a0.snd.snd (Int.toNat v3) (Int.ofNat 0, Int.ofNat 0, [])).snd.snd)) fun (r696 : (Int × List Int) × List Int × Int) => (if decide ((List.getD a0.snd.snd (Int.toNat v3) (Int.ofNat 0, Int.ofNat 0, [])).fst ≤ v0) = true then some (210) else (if decide ((List.getD a0.snd.snd (Int.toNat v3) (Int.ofNat 0, Int.ofNat 0, [])).fst ≥ a0.snd.fst) = true then some (210) else (if (r696.snd.snd != 0) = true then some (210) else (Option.bind (names_equal.m k (r696.fst.fst, r696.fst.snd) ((List.getD a0.snd.snd (Int.toNat v3) (Int.ofNat 0, Int.ofNat 0, [])).snd.fst, (List.getD a0.snd.snd (Int.toNat v3) (Int.ofNat 0, Int.ofNat 0, [])).snd.snd)) fun (r849 : Bool) => (if (!r849) = true then some (210) else (if 0 ≤ v3 then (if v3 ≤ (↑(List.length a0.snd.snd) : Int) then (names_Right.l1 k k n0 a0 v3 r696 (0)) else none) else none))))))) else none) else none) else some (0)) := by kernel_rfl
noncomputable def names_Right.m0 (k : Nat) (a0 : Int × Int × List (Int × Int × List Int)) : Option (Int) :=
  execFI Tryz.prog (names_Right.fns k) names_Right.lay names_Right.ann k (names_Right.s0) 75 Tryz.f66.results.toList (Go.Vx.bodyOf Tryz.f66) a0
noncomputable def names_Right.m : (Nat) → (Int × Int × List (Int × Int × List Int)) → Option (Int) := hide names_Right.m0
theorem names_Right.m_hid : names_Right.m = names_Right.m0 := hide_eq _
theorem names_Right.m_eq (k : Nat) (a0 : Int × Int × List (Int × Int × List Int)) : names_Right.m k a0 = (Option.bind (names_known.m k a0.fst) fun (r5 : Bool) => (if (!r5) = true then some (210) else (if decide (a0.snd.fst < 1) = true then some (210) else (Option.bind (names_limits.m k (a0.fst, a0.snd.fst, a0.snd.snd)) fun (r48 : Bool) => (if (!r48) = true then some (210) else (names_Right.l0 k k  a0 (0) (0))))))) := by
  rw [names_Right.m_hid]
  kernel_rfl
noncomputable def names_Right.sp (k : Nat) : Go.Vx.Spec := names_Right.s0.runs fun (x : names_Right.s0.argK.T) => names_Right.m k x
theorem names_Right.good (k : Nat) : Go.Vx.Good Tryz.prog 66 (names_Right.sp k) := Go.Vx.good_runsI Tryz.func66 (show Tryz.f66.body = some (Go.Vx.bodyOf Tryz.f66) by kernel_rfl) (by kernel_rfl) (by kernel_rfl) (names_Right.fns_good k) names_Right.lay_good (by
  intro x r h
  have h : names_Right.m k x = some r := h
  rw [names_Right.m_hid] at h
  exact h)
noncomputable def edition_Next.s0 : Go.Vx.Spec := ⟨[none, none, some 3], (.pair (K.int IntKind.u64) (.pair (K.slice (K.pair (K.int IntKind.i64) (K.pair (K.int IntKind.u64) (K.pair (K.int IntKind.u64) (K.int IntKind.u64))))) (K.pair (K.int IntKind.i64) (K.pair (K.int IntKind.i64) (K.slice (K.pair (K.int IntKind.i64) (K.pair (K.int IntKind.i64) (K.slice (K.int IntKind.u64))))))))), [.own ((K.pair (K.int IntKind.i64) (K.pair (K.int IntKind.u64) (K.pair (K.int IntKind.u64) (K.int IntKind.u64))))) 42, .im (K.int IntKind.i64)], .tup [none, none], false, fun _ => none⟩
noncomputable def edition_Next.fns (k : Nat) : Go.Vx.Fns := [(15, edition_Check.sp k), (66, names_Right.sp k), (67, cClone.sp k), (14, edition_Root.sp k), (43, edition_signed.sp k)]
theorem edition_Next.fns_good (k : Nat) : (edition_Next.fns k).good Tryz.prog := (Go.Vx.Fns.good_cons (edition_Check.good k) (Go.Vx.Fns.good_cons (names_Right.good k) (Go.Vx.Fns.good_cons (cClone.good k) (Go.Vx.Fns.good_cons (edition_Root.good k) (Go.Vx.Fns.good_cons (edition_signed.good k) Go.Vx.Fns.good_nil)))))
def edition_Next.ann : List (Nat × Ann) := []
noncomputable def edition_Next.lay : Lay := .nil
theorem edition_Next.lay_good : edition_Next.lay.good Tryz.prog := True.intro
noncomputable def edition_Next.pl : Pl := ⟨0, edition_Next.lay, edition_Next.ann, (Go.Vx.bodyOf Tryz.f40)⟩
noncomputable def edition_Next.m0 (k : Nat) (a0 : Int) (a1 : List (Int × Int × Int × Int)) (a2 : Int × Int × List (Int × Int × List Int)) : Option (List (Int × Int × Int × Int) × Int) :=
  execFI Tryz.prog (edition_Next.fns k) edition_Next.lay edition_Next.ann k (edition_Next.s0) 33 Tryz.f40.results.toList (Go.Vx.bodyOf Tryz.f40) (a0, a1, a2)
noncomputable def edition_Next.m : (Nat) → (Int) → (List (Int × Int × Int × Int)) → (Int × Int × List (Int × Int × List Int)) → Option (List (Int × Int × Int × Int) × Int) := hide edition_Next.m0
theorem edition_Next.m_hid : edition_Next.m = edition_Next.m0 := hide_eq _
theorem edition_Next.m_eq (k : Nat) (a0 : Int) (a1 : List (Int × Int × Int × Int)) (a2 : Int × Int × List (Int × Int × List Int)) : edition_Next.m k a0 a1 a2 = (Option.bind (edition_Check.m k a0 a1) fun (r6 : Int) => (if (r6 != 0) = true then some (([], r6)) else (Option.bind (names_Right.m k (a2.fst, a2.snd.fst, a2.snd.snd)) fun (r16 : Int) => (if (r16 != 0) = true then some (([], r16)) else (if ((↑(List.length a1) : Int) == 60) = true then some (([], 2)) else (Option.bind (cClone.m k a1) fun (r32 : List (Int × Int × Int × Int)) => (Option.bind (edition_Root.m k (a2.fst, a2.snd.fst, a2.snd.snd)) fun (r37 : Int) => (Option.bind (edition_signed.m k a0 a1 r37) fun (r39 : Int × Int × Int × Int) => (if (List.length r32 + List.length [(r39.fst, r39.snd.fst, r39.snd.snd.fst, r39.snd.snd.snd)]) * 32 ≤ 140737488355328 then some ((List.append r32 [(r39.fst, r39.snd.fst, r39.snd.snd.fst, r39.snd.snd.snd)], 0)) else none))))))))) := by
  rw [edition_Next.m_hid]
  kernel_rfl
noncomputable def edition_Next.sp (k : Nat) : Go.Vx.Spec := edition_Next.s0.runs fun (x : edition_Next.s0.argK.T) => edition_Next.m k x.1 x.2.1 x.2.2
theorem edition_Next.good (k : Nat) : Go.Vx.Good Tryz.prog 40 (edition_Next.sp k) := Go.Vx.good_runsI Tryz.func40 (show Tryz.f40.body = some (Go.Vx.bodyOf Tryz.f40) by kernel_rfl) (by kernel_rfl) (by kernel_rfl) (edition_Next.fns_good k) edition_Next.lay_good (by
  intro x r h
  have h : edition_Next.m k x.1 x.2.1 x.2.2 = some r := h
  rw [edition_Next.m_hid] at h
  exact h)
noncomputable def plexuslaw48_next.s0 : Go.Vx.Spec := ⟨[none, none, some 3], (.pair (K.int IntKind.u64) (.pair (K.slice (K.pair (K.int IntKind.i64) (K.pair (K.int IntKind.u64) (K.pair (K.int IntKind.u64) (K.int IntKind.u64))))) (K.pair (K.int IntKind.i64) (K.pair (K.int IntKind.i64) (K.slice (K.pair (K.int IntKind.i64) (K.pair (K.int IntKind.i64) (K.slice (K.int IntKind.u64))))))))), [.im (K.pair (K.slice (K.pair (K.int IntKind.i64) (K.pair (K.int IntKind.u64) (K.pair (K.int IntKind.u64) (K.int IntKind.u64))))) (K.int IntKind.i64))], .one (some 2), true, fun _ => none⟩
noncomputable def plexuslaw48_next.fns (k : Nat) : Go.Vx.Fns := [(40, edition_Next.sp k)]
theorem plexuslaw48_next.fns_good (k : Nat) : (plexuslaw48_next.fns k).good Tryz.prog := (Go.Vx.Fns.good_cons (edition_Next.good k) Go.Vx.Fns.good_nil)
def plexuslaw48_next.ann : List (Nat × Ann) := []
noncomputable def plexuslaw48_next.lay : Lay := .nil
theorem plexuslaw48_next.lay_good : plexuslaw48_next.lay.good Tryz.prog := True.intro
noncomputable def plexuslaw48_next.pl : Pl := ⟨0, plexuslaw48_next.lay, plexuslaw48_next.ann, (Go.Vx.bodyOf Tryz.f12)⟩
noncomputable def plexuslaw48_next.m0 (k : Nat) (a0 : Int) (a1 : List (Int × Int × Int × Int)) (a2 : Int × Int × List (Int × Int × List Int)) : Option (List (Int × Int × Int × Int) × Int) :=
  execFI Tryz.prog (plexuslaw48_next.fns k) plexuslaw48_next.lay plexuslaw48_next.ann k (plexuslaw48_next.s0) 19 Tryz.f12.results.toList (Go.Vx.bodyOf Tryz.f12) (a0, a1, a2)
noncomputable def plexuslaw48_next.m : (Nat) → (Int) → (List (Int × Int × Int × Int)) → (Int × Int × List (Int × Int × List Int)) → Option (List (Int × Int × Int × Int) × Int) := hide plexuslaw48_next.m0
theorem plexuslaw48_next.m_hid : plexuslaw48_next.m = plexuslaw48_next.m0 := hide_eq _
theorem plexuslaw48_next.m_eq (k : Nat) (a0 : Int) (a1 : List (Int × Int × Int × Int)) (a2 : Int × Int × List (Int × Int × List Int)) : plexuslaw48_next.m k a0 a1 a2 = (Option.bind (edition_Next.m k a0 a1 (a2.fst, a2.snd.fst, a2.snd.snd)) fun (r6 : List (Int × Int × Int × Int) × Int) => some ((r6.1, r6.snd))) := by
  rw [plexuslaw48_next.m_hid]
  kernel_rfl
noncomputable def plexuslaw48_next.sp (k : Nat) : Go.Vx.Spec := plexuslaw48_next.s0.runs fun (x : plexuslaw48_next.s0.argK.T) => plexuslaw48_next.m k x.1 x.2.1 x.2.2
theorem plexuslaw48_next.good (k : Nat) : Go.Vx.Good Tryz.prog 12 (plexuslaw48_next.sp k) := Go.Vx.good_runsI Tryz.func12 (show Tryz.f12.body = some (Go.Vx.bodyOf Tryz.f12) by kernel_rfl) (by kernel_rfl) (by kernel_rfl) (plexuslaw48_next.fns_good k) plexuslaw48_next.lay_good (by
  intro x r h
  have h : plexuslaw48_next.m k x.1 x.2.1 x.2.2 = some r := h
  rw [plexuslaw48_next.m_hid] at h
  exact h)
noncomputable def edition_Show.s0 : Go.Vx.Spec := ⟨[some 3, none], (.pair (K.pair (K.int IntKind.i64) (K.pair (K.int IntKind.i64) (K.slice (K.pair (K.int IntKind.i64) (K.pair (K.int IntKind.i64) (K.slice (K.int IntKind.u64))))))) (K.int IntKind.i64)), [.im (K.pair (K.int IntKind.i64) (K.pair (K.int IntKind.i64) (K.pair (K.int IntKind.u64) (K.slice (K.int IntKind.u64))))), .im (K.int IntKind.i64)], .tup [some 4, none], true, fun _ => none⟩
noncomputable def edition_Show.fns (k : Nat) : Go.Vx.Fns := [(66, names_Right.sp k), (42, edition_leaves.sp k), (74, cOpen.sp k), (68, cRoot.sp k)]
theorem edition_Show.fns_good (k : Nat) : (edition_Show.fns k).good Tryz.prog := (Go.Vx.Fns.good_cons (names_Right.good k) (Go.Vx.Fns.good_cons (edition_leaves.good k) (Go.Vx.Fns.good_cons (cOpen.good k) (Go.Vx.Fns.good_cons (cRoot.good k) Go.Vx.Fns.good_nil))))
def edition_Show.ann : List (Nat × Ann) := [(2000005, ⟨rg [(0, 2), (3, 1), (5, 2), (8, 31)], []⟩)]
def edition_Show.ann1 : List (Nat × Ann) := [(1000002, ⟨rg [(2, 5), (9, 10)], []⟩)]
def edition_Show.ann2 : List (Nat × Ann) := []
noncomputable def edition_Show.lay : Lay := (.cons 4 3 72 [0, 1, 3, 5, 6, 7, 8, 9, 10, 11, 12, 13, 14, 15, 16, 17, 18, 19, 20, 21, 22, 23, 24, 25, 26, 27, 28, 29, 30, 31, 32, 33, 34, 35, 36, 37, 38] Tryz.f72 edition_Show.ann1 (.cons 4 5 73 [2, 3, 4, 6, 9, 10, 11, 12, 13, 14, 15, 16, 17, 18] Tryz.f73 edition_Show.ann2 .nil .nil) .nil)
theorem edition_Show.lay_good : edition_Show.lay.good Tryz.prog := ⟨⟨Tryz.func72, by kernel_rfl, by kernel_rfl⟩, ⟨⟨Tryz.func73, by kernel_rfl, by kernel_rfl⟩, True.intro, True.intro⟩, True.intro⟩
noncomputable def edition_Show.pl : Pl := ⟨0, edition_Show.lay, edition_Show.ann, (Go.Vx.bodyOf Tryz.f52)⟩
noncomputable def edition_Show.j0 (k : Nat)  (a0 : Int × Int × List (Int × Int × List Int)) (v0 : Int) : Option ((Int × Int × Int × List Int) × Int) :=
  joinK (fun s_ => execP Tryz.prog (edition_Show.fns k) k (plC [1, 1, 1] edition_Show.pl) s_ (contP Tryz.prog (edition_Show.fns k) k [1, 1, 1] [] edition_Show.pl (finK Tryz.prog (edition_Show.s0) Tryz.f52.results.toList))) ({ tmps := dz 2 ++ [AV.ptr 0 0, AV.dead, AV.ptr 1 0] ++ dz 2 ++ [AV.val (Value.int IntKind.i64 v0)] ++ dz 31, ents := [(0, Ent.box 34 [AV.val (Value.int IntKind.i64 a0.fst), AV.val (Value.int IntKind.i64 a0.snd.fst), AV.sh (K.pair (K.int IntKind.i64) (K.pair (K.int IntKind.i64) (K.slice (K.int IntKind.u64)))) a0.snd.snd]), (1, Ent.box 63 [AV.val (Value.int IntKind.i64 0), AV.val (Value.int IntKind.i64 0), AV.val (Value.int IntKind.u64 0), AV.val (Value.slice none 0 0)])], nx := 2 })
noncomputable def edition_Show.l0 (n_ k : Nat)  (a0 : Int × Int × List (Int × Int × List Int)) (a1 : Int) (v2 : Int) : Option ((Int × Int × Int × List Int) × Int) :=
  loopK n_ (execP Tryz.prog (edition_Show.fns k) k (plC [1, 1, 0, 294915, 1, 0, 1, 0, 0] edition_Show.pl)) (nmP (plC [1, 1, 0, 294915, 1, 0, 1, 0, 0] edition_Show.pl)) ({ tmps := [AV.sh (K.pair (K.int IntKind.i64) (K.pair (K.int IntKind.i64) (K.slice (K.int IntKind.u64)))) a0.snd.snd, AV.fn 73 [AV.ptr 1 0]] ++ dz 5 ++ [AV.val (Value.int IntKind.i64 (↑(List.length a0.snd.snd) : Int)), AV.val (Value.int IntKind.i64 v2)] ++ dz 10, ents := [(0, Ent.ghost 0 [AV.dead, AV.dead, AV.ptr 2 0, AV.dead, AV.ptr 3 0, AV.dead, AV.dead, AV.dead, AV.dead, AV.dead, AV.dead, AV.dead, AV.dead, AV.dead, AV.dead, AV.dead, AV.dead, AV.dead, AV.dead, AV.dead, AV.dead, AV.dead, AV.dead, AV.dead, AV.dead, AV.dead, AV.dead, AV.dead, AV.dead, AV.dead, AV.dead, AV.dead, AV.dead, AV.dead, AV.dead, AV.dead, AV.dead, AV.dead, AV.dead]), (1, Ent.box 3 [AV.val (Value.int IntKind.i64 a1)]), (2, Ent.box 34 [AV.val (Value.int IntKind.i64 a0.fst), AV.val (Value.int IntKind.i64 a0.snd.fst), AV.sh (K.pair (K.int IntKind.i64) (K.pair (K.int IntKind.i64) (K.slice (K.int IntKind.u64)))) a0.snd.snd]), (3, Ent.box 63 [AV.val (Value.int IntKind.i64 0), AV.val (Value.int IntKind.i64 0), AV.val (Value.int IntKind.u64 0), AV.val (Value.slice none 0 0)])], nx := 4 }) (contP Tryz.prog (edition_Show.fns k) k [1, 1, 0, 294915, 1, 0, 1, 0] [] edition_Show.pl (finK Tryz.prog (edition_Show.s0) Tryz.f52.results.toList))
theorem edition_Show.j0_eq (k : Nat)  (a0 : Int × Int × List (Int × Int × List Int)) (v0 : Int) : edition_Show.j0 k  a0 (v0) = (if (decide (v0 < 0)) = true then some (((0, 0, 0, []), 4)) else (Option.bind (edition_leaves.m k (a0.fst, a0.snd.fst, a0.snd.snd)) fun (r106 : List Int) => (Option.bind (cOpen.h k r106 v0) fun (r111 : List Int × Int) => (Option.bind (cRoot.h k r106) fun (r122 : Int) => some ((((↑(List.length r106) : Int), v0, r122, r111.1), 0)))))) := by
  unfold edition_Show.j0
  rw [joinK_eq]
  kernel_rfl
theorem edition_Show.l0_succ (n0 k : Nat)  (a0 : Int × Int × List (Int × Int × List Int)) (a1 : Int) (v2 : Int) : edition_Show.l0 (n0 + 1) k  a0 a1 (v2) = (if (decide (v2 < (↑(List.length a0.snd.snd) : Int))) = true then (if 0 ≤ v2 then (if v2 < (↑(List.length a0.snd.snd) : Int) then (if ((List.getD a0.snd.snd (Int.toNat v2) (Int.ofNat 0, Int.ofNat 0, [])).fst == a1) = true then (edition_Show.j0 k  a0 (v2)) else (edition_Show.l0 n0 k  a0 a1 (IntKind.wrap IntKind.i64 (v2 + 1)))) else none) else none) else (edition_Show.j0 k  a0 (-1))) := by kernel_rfl
noncomputable def edition_Show.m0 (k : Nat) (a0 : Int × Int × List (Int × Int × List Int)) (a1 : Int) : Option ((Int × Int × Int × List Int) × Int) :=
  execFI Tryz.prog (edition_Show.fns k) edition_Show.lay edition_Show.ann k (edition_Show.s0) 39 Tryz.f52.results.toList (Go.Vx.bodyOf Tryz.f52) (a0, a1)
noncomputable def edition_Show.m : (Nat) → (Int × Int × List (Int × Int × List Int)) → (Int) → Option ((Int × Int × Int × List Int) × Int) := hide edition_Show.m0
theorem edition_Show.m_hid : edition_Show.m = edition_Show.m0 := hide_eq _
theorem edition_Show.m_eq (k : Nat) (a0 : Int × Int × List (Int × Int × List Int)) (a1 : Int) : edition_Show.m k a0 a1 = (Option.bind (names_Right.m k (a0.fst, a0.snd.fst, a0.snd.snd)) fun (r6 : Int) => (if (r6 != 0) = true then some (((0, 0, 0, []), r6)) else (edition_Show.l0 k k  a0 a1 (0)))) := by
  rw [edition_Show.m_hid]
  kernel_rfl
noncomputable def edition_Show.sp (k : Nat) : Go.Vx.Spec := edition_Show.s0.runs fun (x : edition_Show.s0.argK.T) => edition_Show.m k x.1 x.2
theorem edition_Show.good (k : Nat) : Go.Vx.Good Tryz.prog 52 (edition_Show.sp k) := Go.Vx.good_runsI Tryz.func52 (show Tryz.f52.body = some (Go.Vx.bodyOf Tryz.f52) by kernel_rfl) (by kernel_rfl) (by kernel_rfl) (edition_Show.fns_good k) edition_Show.lay_good (by
  intro x r h
  have h : edition_Show.m k x.1 x.2 = some r := h
  rw [edition_Show.m_hid] at h
  exact h)
noncomputable def plexuslaw48_show.s0 : Go.Vx.Spec := ⟨[some 3, none], (.pair (K.pair (K.int IntKind.i64) (K.pair (K.int IntKind.i64) (K.slice (K.pair (K.int IntKind.i64) (K.pair (K.int IntKind.i64) (K.slice (K.int IntKind.u64))))))) (K.int IntKind.i64)), [.im (K.pair (K.pair (K.int IntKind.i64) (K.pair (K.int IntKind.i64) (K.pair (K.int IntKind.u64) (K.slice (K.int IntKind.u64))))) (K.int IntKind.i64))], .one (some 5), true, fun _ => none⟩
noncomputable def plexuslaw48_show.fns (k : Nat) : Go.Vx.Fns := [(52, edition_Show.sp k)]
theorem plexuslaw48_show.fns_good (k : Nat) : (plexuslaw48_show.fns k).good Tryz.prog := (Go.Vx.Fns.good_cons (edition_Show.good k) Go.Vx.Fns.good_nil)
def plexuslaw48_show.ann : List (Nat × Ann) := []
noncomputable def plexuslaw48_show.lay : Lay := .nil
theorem plexuslaw48_show.lay_good : plexuslaw48_show.lay.good Tryz.prog := True.intro
noncomputable def plexuslaw48_show.pl : Pl := ⟨0, plexuslaw48_show.lay, plexuslaw48_show.ann, (Go.Vx.bodyOf Tryz.f29)⟩
noncomputable def plexuslaw48_show.m0 (k : Nat) (a0 : Int × Int × List (Int × Int × List Int)) (a1 : Int) : Option ((Int × Int × Int × List Int) × Int) :=
  execFI Tryz.prog (plexuslaw48_show.fns k) plexuslaw48_show.lay plexuslaw48_show.ann k (plexuslaw48_show.s0) 16 Tryz.f29.results.toList (Go.Vx.bodyOf Tryz.f29) (a0, a1)
noncomputable def plexuslaw48_show.m : (Nat) → (Int × Int × List (Int × Int × List Int)) → (Int) → Option ((Int × Int × Int × List Int) × Int) := hide plexuslaw48_show.m0
theorem plexuslaw48_show.m_hid : plexuslaw48_show.m = plexuslaw48_show.m0 := hide_eq _
theorem plexuslaw48_show.m_eq (k : Nat) (a0 : Int × Int × List (Int × Int × List Int)) (a1 : Int) : plexuslaw48_show.m k a0 a1 = (Option.bind (edition_Show.m k (a0.fst, a0.snd.fst, a0.snd.snd) a1) fun (r5 : (Int × Int × Int × List Int) × Int) => some (((r5.fst.fst, r5.fst.snd.fst, r5.fst.snd.snd.fst, r5.fst.snd.snd.snd), r5.snd))) := by
  rw [plexuslaw48_show.m_hid]
  kernel_rfl
noncomputable def plexuslaw48_show.sp (k : Nat) : Go.Vx.Spec := plexuslaw48_show.s0.runs fun (x : plexuslaw48_show.s0.argK.T) => plexuslaw48_show.m k x.1 x.2
theorem plexuslaw48_show.good (k : Nat) : Go.Vx.Good Tryz.prog 29 (plexuslaw48_show.sp k) := Go.Vx.good_runsI Tryz.func29 (show Tryz.f29.body = some (Go.Vx.bodyOf Tryz.f29) by kernel_rfl) (by kernel_rfl) (by kernel_rfl) (plexuslaw48_show.fns_good k) plexuslaw48_show.lay_good (by
  intro x r h
  have h : plexuslaw48_show.m k x.1 x.2 = some r := h
  rw [plexuslaw48_show.m_hid] at h
  exact h)
noncomputable def edition_Fork.s0 : Go.Vx.Spec := ⟨[none, none], (.pair (K.slice (K.pair (K.int IntKind.i64) (K.pair (K.int IntKind.u64) (K.pair (K.int IntKind.u64) (K.int IntKind.u64))))) (K.slice (K.pair (K.int IntKind.i64) (K.pair (K.int IntKind.u64) (K.pair (K.int IntKind.u64) (K.int IntKind.u64)))))), [.im (K.int IntKind.i64), .im (K.bool)], .tup [none, none], false, fun _ => none⟩
noncomputable def edition_Fork.fns (k : Nat) : Go.Vx.Fns := []
theorem edition_Fork.fns_good (k : Nat) : (edition_Fork.fns k).good Tryz.prog := Go.Vx.Fns.good_nil
def edition_Fork.ann : List (Nat × Ann) := [(1000003, ⟨rg [(2, 4), (7, 6), (15, 14)], []⟩)]
noncomputable def edition_Fork.lay : Lay := .nil
theorem edition_Fork.lay_good : edition_Fork.lay.good Tryz.prog := True.intro
noncomputable def edition_Fork.pl : Pl := ⟨0, edition_Fork.lay, edition_Fork.ann, (Go.Vx.bodyOf Tryz.f44)⟩
noncomputable def edition_Fork.l0 (n_ k : Nat)  (a0 : List (Int × Int × Int × Int)) (a1 : List (Int × Int × Int × Int)) (v4 : Int) : Option (Int × Bool) :=
  loopK n_ (execP Tryz.prog (edition_Fork.fns k) k (plC [1, 1, 0, 1, 0, 0] edition_Fork.pl)) (nmP (plC [1, 1, 0, 1, 0, 0] edition_Fork.pl)) ({ tmps := [AV.sh (K.pair (K.int IntKind.i64) (K.pair (K.int IntKind.u64) (K.pair (K.int IntKind.u64) (K.int IntKind.u64)))) a0, AV.sh (K.pair (K.int IntKind.i64) (K.pair (K.int IntKind.u64) (K.pair (K.int IntKind.u64) (K.int IntKind.u64)))) a1] ++ dz 4 ++ [AV.val (Value.int IntKind.i64 (mnF (↑(List.length a0) : Int) (↑(List.length a1) : Int)))] ++ dz 6 ++ [AV.val (Value.int IntKind.i64 (mnF (↑(List.length a0) : Int) (↑(List.length a1) : Int))), AV.val (Value.int IntKind.i64 v4)] ++ dz 14, ents := [], nx := 0 }) (contP Tryz.prog (edition_Fork.fns k) k [1, 1, 0, 1, 0] [] edition_Fork.pl (finK Tryz.prog (edition_Fork.s0) Tryz.f44.results.toList))
theorem edition_Fork.l0_succ (n0 k : Nat)  (a0 : List (Int × Int × Int × Int)) (a1 : List (Int × Int × Int × Int)) (v4 : Int) : edition_Fork.l0 (n0 + 1) k  a0 a1 (v4) = (if (decide (v4 < mnF (↑(List.length a0) : Int) (↑(List.length a1) : Int))) = true then (if 0 ≤ v4 then (if v4 < (↑(List.length a0) : Int) then (if 0 ≤ v4 then (if v4 < (↑(List.length a1) : Int) then (if (!((List.getD a0 (Int.toNat v4) (Int.ofNat 0, Int.ofNat 0, Int.ofNat 0, Int.ofNat 0)).fst == (List.getD a1 (Int.toNat v4) (Int.ofNat 0, Int.ofNat 0, Int.ofNat 0, Int.ofNat 0)).fst && ((List.getD a0 (Int.toNat v4) (Int.ofNat 0, Int.ofNat 0, Int.ofNat 0, Int.ofNat 0)).snd.fst == (List.getD a1 (Int.toNat v4) (Int.ofNat 0, Int.ofNat 0, Int.ofNat 0, Int.ofNat 0)).snd.fst && ((List.getD a0 (Int.toNat v4) (Int.ofNat 0, Int.ofNat 0, Int.ofNat 0, Int.ofNat 0)).snd.snd.fst == (List.getD a1 (Int.toNat v4) (Int.ofNat 0, Int.ofNat 0, Int.ofNat 0, Int.ofNat 0)).snd.snd.fst && (List.getD a0 (Int.toNat v4) (Int.ofNat 0, Int.ofNat 0, Int.ofNat 0, Int.ofNat 0)).snd.snd.snd == (List.getD a1 (Int.toNat v4) (Int.ofNat 0, Int.ofNat 0, Int.ofNat 0, Int.ofNat 0)).snd.snd.snd)))) = true then some ((v4, true)) else (edition_Fork.l0 n0 k  a0 a1 (IntKind.wrap IntKind.i64 (v4 + 1)))) else none) else none) else none) else none) else some ((mnF (↑(List.length a0) : Int) (↑(List.length a1) : Int), false))) := by kernel_rfl
noncomputable def edition_Fork.m0 (k : Nat) (a0 : List (Int × Int × Int × Int)) (a1 : List (Int × Int × Int × Int)) : Option (Int × Bool) :=
  execFI Tryz.prog (edition_Fork.fns k) edition_Fork.lay edition_Fork.ann k (edition_Fork.s0) 29 Tryz.f44.results.toList (Go.Vx.bodyOf Tryz.f44) (a0, a1)
noncomputable def edition_Fork.m : (Nat) → (List (Int × Int × Int × Int)) → (List (Int × Int × Int × Int)) → Option (Int × Bool) := hide edition_Fork.m0
theorem edition_Fork.m_hid : edition_Fork.m = edition_Fork.m0 := hide_eq _
theorem edition_Fork.m_eq (k : Nat) (a0 : List (Int × Int × Int × Int)) (a1 : List (Int × Int × Int × Int)) : edition_Fork.m k a0 a1 = (edition_Fork.l0 k k  a0 a1 (0)) := by
  rw [edition_Fork.m_hid]
  kernel_rfl
noncomputable def edition_Fork.sp (k : Nat) : Go.Vx.Spec := edition_Fork.s0.runs fun (x : edition_Fork.s0.argK.T) => edition_Fork.m k x.1 x.2
theorem edition_Fork.good (k : Nat) : Go.Vx.Good Tryz.prog 44 (edition_Fork.sp k) := Go.Vx.good_runsI Tryz.func44 (show Tryz.f44.body = some (Go.Vx.bodyOf Tryz.f44) by kernel_rfl) (by kernel_rfl) (by kernel_rfl) (edition_Fork.fns_good k) edition_Fork.lay_good (by
  intro x r h
  have h : edition_Fork.m k x.1 x.2 = some r := h
  rw [edition_Fork.m_hid] at h
  exact h)
noncomputable def plexuslaw48_fork.s0 : Go.Vx.Spec := ⟨[none, none], (.pair (K.slice (K.pair (K.int IntKind.i64) (K.pair (K.int IntKind.u64) (K.pair (K.int IntKind.u64) (K.int IntKind.u64))))) (K.slice (K.pair (K.int IntKind.i64) (K.pair (K.int IntKind.u64) (K.pair (K.int IntKind.u64) (K.int IntKind.u64)))))), [.im (K.pair (K.int IntKind.i64) K.bool)], .one (some 2), false, fun _ => none⟩
noncomputable def plexuslaw48_fork.fns (k : Nat) : Go.Vx.Fns := [(44, edition_Fork.sp k)]
theorem plexuslaw48_fork.fns_good (k : Nat) : (plexuslaw48_fork.fns k).good Tryz.prog := (Go.Vx.Fns.good_cons (edition_Fork.good k) Go.Vx.Fns.good_nil)
def plexuslaw48_fork.ann : List (Nat × Ann) := []
noncomputable def plexuslaw48_fork.lay : Lay := .nil
theorem plexuslaw48_fork.lay_good : plexuslaw48_fork.lay.good Tryz.prog := True.intro
noncomputable def plexuslaw48_fork.pl : Pl := ⟨0, plexuslaw48_fork.lay, plexuslaw48_fork.ann, (Go.Vx.bodyOf Tryz.f17)⟩
noncomputable def plexuslaw48_fork.m0 (k : Nat) (a0 : List (Int × Int × Int × Int)) (a1 : List (Int × Int × Int × Int)) : Option (Int × Bool) :=
  execFI Tryz.prog (plexuslaw48_fork.fns k) plexuslaw48_fork.lay plexuslaw48_fork.ann k (plexuslaw48_fork.s0) 16 Tryz.f17.results.toList (Go.Vx.bodyOf Tryz.f17) (a0, a1)
noncomputable def plexuslaw48_fork.m : (Nat) → (List (Int × Int × Int × Int)) → (List (Int × Int × Int × Int)) → Option (Int × Bool) := hide plexuslaw48_fork.m0
theorem plexuslaw48_fork.m_hid : plexuslaw48_fork.m = plexuslaw48_fork.m0 := hide_eq _
theorem plexuslaw48_fork.m_eq (k : Nat) (a0 : List (Int × Int × Int × Int)) (a1 : List (Int × Int × Int × Int)) : plexuslaw48_fork.m k a0 a1 = (Option.bind (edition_Fork.m k a0 a1) fun (r4 : Int × Bool) => some ((r4.fst, r4.snd))) := by
  rw [plexuslaw48_fork.m_hid]
  kernel_rfl
noncomputable def plexuslaw48_fork.sp (k : Nat) : Go.Vx.Spec := plexuslaw48_fork.s0.runs fun (x : plexuslaw48_fork.s0.argK.T) => plexuslaw48_fork.m k x.1 x.2
theorem plexuslaw48_fork.good (k : Nat) : Go.Vx.Good Tryz.prog 17 (plexuslaw48_fork.sp k) := Go.Vx.good_runsI Tryz.func17 (show Tryz.f17.body = some (Go.Vx.bodyOf Tryz.f17) by kernel_rfl) (by kernel_rfl) (by kernel_rfl) (plexuslaw48_fork.fns_good k) plexuslaw48_fork.lay_good (by
  intro x r h
  have h : plexuslaw48_fork.m k x.1 x.2 = some r := h
  rw [plexuslaw48_fork.m_hid] at h
  exact h)
noncomputable def plexuslaw48_examples.s0 : Go.Vx.Spec := ⟨[], .unit, [.im (K.bool)], .one (none), false, fun _ => none⟩
noncomputable def plexuslaw48_examples.fns (k : Nat) : Go.Vx.Fns := [(36, cWords.sp k), (35, seal_Join.sp k), (12, plexuslaw48_next.sp k), (14, edition_Root.sp k), (37, seal_Tag.sp k), (20, edition_Digest.sp k), (15, edition_Check.sp k), (29, plexuslaw48_show.sp k), (17, plexuslaw48_fork.sp k)]
theorem plexuslaw48_examples.fns_good (k : Nat) : (plexuslaw48_examples.fns k).good Tryz.prog := (Go.Vx.Fns.good_cons (cWords.good k) (Go.Vx.Fns.good_cons (seal_Join.good k) (Go.Vx.Fns.good_cons (plexuslaw48_next.good k) (Go.Vx.Fns.good_cons (edition_Root.good k) (Go.Vx.Fns.good_cons (seal_Tag.good k) (Go.Vx.Fns.good_cons (edition_Digest.good k) (Go.Vx.Fns.good_cons (edition_Check.good k) (Go.Vx.Fns.good_cons (plexuslaw48_show.good k) (Go.Vx.Fns.good_cons (plexuslaw48_fork.good k) Go.Vx.Fns.good_nil)))))))))
def plexuslaw48_examples.ann : List (Nat × Ann) := []
noncomputable def plexuslaw48_examples.lay : Lay := .nil
theorem plexuslaw48_examples.lay_good : plexuslaw48_examples.lay.good Tryz.prog := True.intro
noncomputable def plexuslaw48_examples.pl : Pl := ⟨0, plexuslaw48_examples.lay, plexuslaw48_examples.ann, (Go.Vx.bodyOf Tryz.f9)⟩
noncomputable def plexuslaw48_examples.m0 (k : Nat) : Option (Bool) :=
  execFI Tryz.prog (plexuslaw48_examples.fns k) plexuslaw48_examples.lay plexuslaw48_examples.ann k (plexuslaw48_examples.s0) 112 Tryz.f9.results.toList (Go.Vx.bodyOf Tryz.f9) ()
noncomputable def plexuslaw48_examples.m : (Nat) → Option (Bool) := hide plexuslaw48_examples.m0
theorem plexuslaw48_examples.m_hid : plexuslaw48_examples.m = plexuslaw48_examples.m0 := hide_eq _
theorem plexuslaw48_examples.m_eq (k : Nat) : plexuslaw48_examples.m k = (Option.bind (cWords.h []) fun (r5 : Int) => (Option.bind (seal_Join.m k r5 0) fun (r7 : Int) => (Option.bind (plexuslaw48_next.m k 7 [] (1, 1, [])) fun (r11 : List (Int × Int × Int × Int) × Int) => (if (r11.snd != 0) = true then some (false) else (if ((↑(List.length r11.fst) : Int) != 1) = true then some (false) else (Option.bind (edition_Root.m k (1, 1, [])) fun (r44 : Int) => (if (r44 != r7) = true then some (false) else (if 0 < (↑(List.length r11.fst) : Int) then (Option.bind (seal_Tag.m k 7 [1, 0, IntKind.wrap IntKind.i64 r7]) fun (r65 : Int) => (if (!((List.getD r11.fst (Int.toNat 0) (Int.ofNat 0, Int.ofNat 0, Int.ofNat 0, Int.ofNat 0)).fst == 1 && ((List.getD r11.fst (Int.toNat 0) (Int.ofNat 0, Int.ofNat 0, Int.ofNat 0, Int.ofNat 0)).snd.fst == 0 && ((List.getD r11.fst (Int.toNat 0) (Int.ofNat 0, Int.ofNat 0, Int.ofNat 0, Int.ofNat 0)).snd.snd.fst == r7 && (List.getD r11.fst (Int.toNat 0) (Int.ofNat 0, Int.ofNat 0, Int.ofNat 0, Int.ofNat 0)).snd.snd.snd == r65)))) = true then some (false) else (Option.bind (plexuslaw48_next.m k 7 r11.fst (1, 1, [])) fun (r76 : List (Int × Int × Int × Int) × Int) => (if (r76.snd == 0) = true then (if ((↑(List.length r76.fst) : Int) == 2) = true then (if 1 < (↑(List.length r76.fst) : Int) then (if ((List.getD r76.fst (Int.toNat 1) (Int.ofNat 0, Int.ofNat 0, Int.ofNat 0, Int.ofNat 0)).fst == 2) = true then (if 1 < (↑(List.length r76.fst) : Int) then (if 0 < (↑(List.length r11.fst) : Int) then (Option.bind (edition_Digest.m k ((List.getD r11.fst (Int.toNat 0) (Int.ofNat 0, Int.ofNat 0, Int.ofNat 0, Int.ofNat 0)).fst, (List.getD r11.fst (Int.toNat 0) (Int.ofNat 0, Int.ofNat 0, Int.ofNat 0, Int.ofNat 0)).snd.fst, (List.getD r11.fst (Int.toNat 0) (Int.ofNat 0, Int.ofNat 0, Int.ofNat 0, Int.ofNat 0)).snd.snd.fst, (List.getD r11.fst (Int.toNat 0) (Int.ofNat 0, Int.ofNat 0, Int.ofNat 0, Int.ofNat 0)).snd.snd.snd)) fun (r115 : Int) => (if ((List.getD r76.fst (Int.toNat 1) (Int.ofNat 0, Int.ofNat 0, Int.ofNat 0, Int.ofNat 0)).snd.fst == r115) = true then (Option.bind (edition_Check.m k 7 r76.fst) fun (r123 : Int) => (if (r123 == 0) = true then (Option.bind (edition_Check.m k 8 r76.fst) fun (r131 : Int) => (if (r131 == 480) = true then (if 1 ≤ (↑(List.length r76.fst) : Int) then (Option.bind (edition_Check.m k 7 (List.drop (Int.toNat 1) r76.fst)) fun (r142 : Int) => (if (r142 == 480) = true then (Option.bind (plexuslaw48_next.m k 7 [] (0, 0, [])) fun (r149 : List (Int × Int × Int × Int) × Int) => (if (r149.snd == 210) = true then (Option.bind (plexuslaw48_show.m k (1, 1, []) 1) fun (r157 : (Int × Int × Int × List Int) × Int) => (if (r157.snd == 4) = true then (Option.bind (plexuslaw48_fork.m k r11.fst r76.fst) fun (r168 : Int × Bool) => some (r168.fst == 1 && r168.snd == false)) else some (false))) else some (false))) else some (false))) else none) else some (false))) else some (false))) else some (false))) else none) else none) else some (false)) else none) else some (false)) else some (false))))) else none)))))))) := by
  rw [plexuslaw48_examples.m_hid]
  kernel_rfl
noncomputable def plexuslaw48_examples.sp (k : Nat) : Go.Vx.Spec := plexuslaw48_examples.s0.runs fun (x : plexuslaw48_examples.s0.argK.T) => plexuslaw48_examples.m k 
theorem plexuslaw48_examples.good (k : Nat) : Go.Vx.Good Tryz.prog 9 (plexuslaw48_examples.sp k) := Go.Vx.good_runsI Tryz.func9 (show Tryz.f9.body = some (Go.Vx.bodyOf Tryz.f9) by kernel_rfl) (by kernel_rfl) (by kernel_rfl) (plexuslaw48_examples.fns_good k) plexuslaw48_examples.lay_good (by
  intro x r h
  have h : plexuslaw48_examples.m k  = some r := h
  rw [plexuslaw48_examples.m_hid] at h
  exact h)
end Go.Proofs.YtjnpcpnjcieheaaGreat.V48
