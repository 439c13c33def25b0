/- Functions as the abstract executor tells them: equations, and contracts; printed by a tool. -/
import Derived.Test.YtbkjdfemamehcaaVsP
namespace Go.Proofs.Ytbkjdfemamehcaa.V03
open Go Go.Vx Go.Proofs
set_option linter.unusedVariables false
set_option maxRecDepth 100000
noncomputable def plexuslaw03_opened.s0 : Go.Vx.Spec := ⟨[none, none], (.pair (K.slice (K.int IntKind.u64)) (K.int IntKind.i64)), [.im (K.pair (K.slice (K.int IntKind.u64)) (K.int IntKind.i64))], .one (some 2), true, fun _ => none⟩
noncomputable def plexuslaw03_opened.fns (k : Nat) : Go.Vx.Fns := [(35, cOpen.sp k)]
theorem plexuslaw03_opened.fns_good (k : Nat) : (plexuslaw03_opened.fns k).good Try.prog := (Go.Vx.Fns.good_cons (cOpen.good k) Go.Vx.Fns.good_nil)
def plexuslaw03_opened.ann : List (Nat × Ann) := []
noncomputable def plexuslaw03_opened.m0 (k : Nat) (a0 : List Int) (a1 : Int) : Option (List Int × Int) :=
  execF Try.prog (plexuslaw03_opened.fns k) plexuslaw03_opened.ann k (plexuslaw03_opened.s0) 16 Try.f14.results.toList (Go.Vx.bodyOf Try.f14) (a0, a1)
noncomputable def plexuslaw03_opened.m : (Nat) → (List Int) → (Int) → Option (List Int × Int) := hide plexuslaw03_opened.m0
theorem plexuslaw03_opened.m_hid : plexuslaw03_opened.m = plexuslaw03_opened.m0 := hide_eq _
theorem plexuslaw03_opened.m_eq (k : Nat) (a0 : List Int) (a1 : Int) : plexuslaw03_opened.m k a0 a1 = (Option.bind (P03.seal_Open.f k a0 a1) fun (r4 : List Int × Int) => some ((r4.1, r4.snd))) := by
  rw [plexuslaw03_opened.m_hid]
  rw [cOpen.hid]
  kernel_rfl
noncomputable def plexuslaw03_opened.sp (k : Nat) : Go.Vx.Spec := plexuslaw03_opened.s0.runs fun (x : plexuslaw03_opened.s0.argK.T) => plexuslaw03_opened.m k x.1 x.2
theorem plexuslaw03_opened.good (k : Nat) : Go.Vx.Good Try.prog 14 (plexuslaw03_opened.sp k) := Go.Vx.good_runs Try.func14 (show Try.f14.body = some (Go.Vx.bodyOf Try.f14) by kernel_rfl) (by kernel_rfl) (by kernel_rfl) (plexuslaw03_opened.fns_good k) (by
  intro x r h
  have h : plexuslaw03_opened.m k x.1 x.2 = some r := h
  rw [plexuslaw03_opened.m_hid] at h
  exact h)
noncomputable def seal_digest_step.s0 : Go.Vx.Spec := ⟨[none, none], (.pair (K.int IntKind.u64) (K.int IntKind.u64)), [.im (K.int IntKind.u64)], .one (none), false, fun _ => none⟩
noncomputable def seal_digest_step.fns (k : Nat) : Go.Vx.Fns := []
theorem seal_digest_step.fns_good (k : Nat) : (seal_digest_step.fns k).good Try.prog := Go.Vx.Fns.good_nil
def seal_digest_step.ann : List (Nat × Ann) := []
noncomputable def seal_digest_step.m0 (k : Nat) (a0 : Int) (a1 : Int) : Option (Int) :=
  execF Try.prog (seal_digest_step.fns k) seal_digest_step.ann k (seal_digest_step.s0) 15 Try.f32.results.toList (Go.Vx.bodyOf Try.f32) (a0, a1)
noncomputable def seal_digest_step.m : (Nat) → (Int) → (Int) → Option (Int) := hide seal_digest_step.m0
theorem seal_digest_step.m_hid : seal_digest_step.m = seal_digest_step.m0 := hide_eq _
theorem seal_digest_step.m_eq (k : Nat) (a0 : Int) (a1 : Int) : seal_digest_step.m k a0 a1 = some (IntKind.wrap IntKind.u64 (IntKind.wrap IntKind.u64 (↑(BitVec.toNat (BitVec.ofInt (IntKind.bits IntKind.u64) (IntKind.wrap IntKind.u64 (IntKind.wrap IntKind.u64 (↑(BitVec.toNat (BitVec.ofInt (IntKind.bits IntKind.u64) a0 ^^^ BitVec.ofInt (IntKind.bits IntKind.u64) a1)) : Int) * 11400714819323198485)) ^^^ BitVec.ofInt (IntKind.bits IntKind.u64) (shF BinOp.shr IntKind.u64 (IntKind.wrap IntKind.u64 (IntKind.wrap IntKind.u64 (↑(BitVec.toNat (BitVec.ofInt (IntKind.bits IntKind.u64) a0 ^^^ BitVec.ofInt (IntKind.bits IntKind.u64) a1)) : Int) * 11400714819323198485)) 29))) : Int) * 13787848793156543929)) := by
  rw [seal_digest_step.m_hid]
  kernel_rfl
noncomputable def seal_digest_step.sp (k : Nat) : Go.Vx.Spec := seal_digest_step.s0.runs fun (x : seal_digest_step.s0.argK.T) => seal_digest_step.m k x.1 x.2
theorem seal_digest_step.good (k : Nat) : Go.Vx.Good Try.prog 32 (seal_digest_step.sp k) := Go.Vx.good_runs Try.func32 (show Try.f32.body = some (Go.Vx.bodyOf Try.f32) by kernel_rfl) (by kernel_rfl) (by kernel_rfl) (seal_digest_step.fns_good k) (by
  intro x r h
  have h : seal_digest_step.m k x.1 x.2 = some r := h
  rw [seal_digest_step.m_hid] at h
  exact h)
noncomputable def seal_Join.s0 : Go.Vx.Spec := ⟨[none, none], (.pair (K.int IntKind.u64) (K.int IntKind.u64)), [.im (K.int IntKind.u64)], .one (none), false, fun _ => none⟩
noncomputable def seal_Join.fns (k : Nat) : Go.Vx.Fns := [(32, seal_digest_step.sp k)]
theorem seal_Join.fns_good (k : Nat) : (seal_Join.fns k).good Try.prog := (Go.Vx.Fns.good_cons (seal_digest_step.good k) Go.Vx.Fns.good_nil)
def seal_Join.ann : List (Nat × Ann) := []
noncomputable def seal_Join.m0 (k : Nat) (a0 : Int) (a1 : Int) : Option (Int) :=
  execF Try.prog (seal_Join.fns k) seal_Join.ann k (seal_Join.s0) 9 Try.f25.results.toList (Go.Vx.bodyOf Try.f25) (a0, a1)
noncomputable def seal_Join.m : (Nat) → (Int) → (Int) → Option (Int) := hide seal_Join.m0
theorem seal_Join.m_hid : seal_Join.m = seal_Join.m0 := hide_eq _
theorem seal_Join.m_eq (k : Nat) (a0 : Int) (a1 : Int) : seal_Join.m k a0 a1 = (Option.bind (seal_digest_step.m k 1785686382 a0) fun (r3 : Int) => (Option.bind (seal_digest_step.m k r3 a1) fun (r6 : Int) => some (r6))) := by
  rw [seal_Join.m_hid]
  kernel_rfl
noncomputable def seal_Join.sp (k : Nat) : Go.Vx.Spec := seal_Join.s0.runs fun (x : seal_Join.s0.argK.T) => seal_Join.m k x.1 x.2
theorem seal_Join.good (k : Nat) : Go.Vx.Good Try.prog 25 (seal_Join.sp k) := Go.Vx.good_runs Try.func25 (show Try.f25.body = some (Go.Vx.bodyOf Try.f25) by kernel_rfl) (by kernel_rfl) (by kernel_rfl) (seal_Join.fns_good k) (by
  intro x r h
  have h : seal_Join.m k x.1 x.2 = some r := h
  rw [seal_Join.m_hid] at h
  exact h)
noncomputable def plexusref03_Same.s0 : Go.Vx.Spec := ⟨[none, none], (.pair (K.slice (K.int IntKind.u64)) (K.slice (K.int IntKind.u64))), [.im (K.bool)], .one (none), false, fun _ => none⟩
noncomputable def plexusref03_Same.fns (k : Nat) : Go.Vx.Fns := []
theorem plexusref03_Same.fns_good (k : Nat) : (plexusref03_Same.fns k).good Try.prog := Go.Vx.Fns.good_nil
def plexusref03_Same.ann : List (Nat × Ann) := [(1000004, ⟨rg [(2, 3), (6, 20)], []⟩)]
noncomputable def plexusref03_Same.l0 (n_ k : Nat)  (a0 : List Int) (a1 : List Int) (v2 : Int) : Option (Bool) :=
  loopK n_ (exec Try.prog (plexusref03_Same.fns k) plexusref03_Same.ann k (subC [1, 1, 0, 1, 0, 0] (Go.Vx.bodyOf Try.f16))) (nmOf plexusref03_Same.ann (subC [1, 1, 0, 1, 0, 0] (Go.Vx.bodyOf Try.f16))) ({ tmps := [AV.sh (K.int IntKind.u64) a0, AV.sh (K.int IntKind.u64) a1] ++ dz 3 ++ [AV.val (Value.int IntKind.i64 v2)] ++ dz 20, ents := [], nx := 0 }) (contC Try.prog (plexusref03_Same.fns k) plexusref03_Same.ann k [1, 1, 0, 1, 0] [] (Go.Vx.bodyOf Try.f16) (finK Try.prog (plexusref03_Same.s0) Try.f16.results.toList))
theorem plexusref03_Same.l0_succ (n0 k : Nat)  (a0 : List Int) (a1 : List Int) (v2 : Int) : plexusref03_Same.l0 (n0 + 1) k  a0 a1 (v2) = (if (decide (v2 < (↑(List.length a0) : Int))) = true then (if 0 ≤ v2 then (if v2 < (↑(List.length a0) : Int) then (if 0 ≤ v2 then (if v2 < (↑(List.length a1) : Int) then (if (List.getD a0 (Int.toNat v2) (Int.ofNat 0) != List.getD a1 (Int.toNat v2) (Int.ofNat 0)) = true then some (false) else (plexusref03_Same.l0 n0 k  a0 a1 (IntKind.wrap IntKind.i64 (v2 + 1)))) else none) else none) else none) else none) else some (true)) := by kernel_rfl
noncomputable def plexusref03_Same.m0 (k : Nat) (a0 : List Int) (a1 : List Int) : Option (Bool) :=
  execF Try.prog (plexusref03_Same.fns k) plexusref03_Same.ann k (plexusref03_Same.s0) 26 Try.f16.results.toList (Go.Vx.bodyOf Try.f16) (a0, a1)
noncomputable def plexusref03_Same.m : (Nat) → (List Int) → (List Int) → Option (Bool) := hide plexusref03_Same.m0
theorem plexusref03_Same.m_hid : plexusref03_Same.m = plexusref03_Same.m0 := hide_eq _
theorem plexusref03_Same.m_eq (k : Nat) (a0 : List Int) (a1 : List Int) : plexusref03_Same.m k a0 a1 = (if ((↑(List.length a0) : Int) != (↑(List.length a1) : Int)) = true then some (false) else (plexusref03_Same.l0 k k  a0 a1 (0))) := by
  rw [plexusref03_Same.m_hid]
  kernel_rfl
noncomputable def plexusref03_Same.sp (k : Nat) : Go.Vx.Spec := plexusref03_Same.s0.runs fun (x : plexusref03_Same.s0.argK.T) => plexusref03_Same.m k x.1 x.2
theorem plexusref03_Same.good (k : Nat) : Go.Vx.Good Try.prog 16 (plexusref03_Same.sp k) := Go.Vx.good_runs Try.func16 (show Try.f16.body = some (Go.Vx.bodyOf Try.f16) by kernel_rfl) (by kernel_rfl) (by kernel_rfl) (plexusref03_Same.fns_good k) (by
  intro x r h
  have h : plexusref03_Same.m k x.1 x.2 = some r := h
  rw [plexusref03_Same.m_hid] at h
  exact h)
noncomputable def seal_Step.s0 : Go.Vx.Spec := ⟨[none, none], (.pair (K.int IntKind.u64) (K.int IntKind.u64)), [.im (K.int IntKind.u64)], .one (none), false, fun _ => none⟩
noncomputable def seal_Step.fns (k : Nat) : Go.Vx.Fns := [(32, seal_digest_step.sp k)]
theorem seal_Step.fns_good (k : Nat) : (seal_Step.fns k).good Try.prog := (Go.Vx.Fns.good_cons (seal_digest_step.good k) Go.Vx.Fns.good_nil)
def seal_Step.ann : List (Nat × Ann) := []
noncomputable def seal_Step.m0 (k : Nat) (a0 : Int) (a1 : Int) : Option (Int) :=
  execF Try.prog (seal_Step.fns k) seal_Step.ann k (seal_Step.s0) 8 Try.f10.results.toList (Go.Vx.bodyOf Try.f10) (a0, a1)
noncomputable def seal_Step.m : (Nat) → (Int) → (Int) → Option (Int) := hide seal_Step.m0
theorem seal_Step.m_hid : seal_Step.m = seal_Step.m0 := hide_eq _
theorem seal_Step.m_eq (k : Nat) (a0 : Int) (a1 : Int) : seal_Step.m k a0 a1 = (Option.bind (seal_digest_step.m k a0 a1) fun (r4 : Int) => some (r4)) := by
  rw [seal_Step.m_hid]
  kernel_rfl
noncomputable def seal_Step.sp (k : Nat) : Go.Vx.Spec := seal_Step.s0.runs fun (x : seal_Step.s0.argK.T) => seal_Step.m k x.1 x.2
theorem seal_Step.good (k : Nat) : Go.Vx.Good Try.prog 10 (seal_Step.sp k) := Go.Vx.good_runs Try.func10 (show Try.f10.body = some (Go.Vx.bodyOf Try.f10) by kernel_rfl) (by kernel_rfl) (by kernel_rfl) (seal_Step.fns_good k) (by
  intro x r h
  have h : seal_Step.m k x.1 x.2 = some r := h
  rw [seal_Step.m_hid] at h
  exact h)
noncomputable def seal_undo.s0 : Go.Vx.Spec := ⟨[none], (K.int IntKind.u64), [.im (K.int IntKind.u64)], .one (none), false, fun _ => none⟩
noncomputable def seal_undo.fns (k : Nat) : Go.Vx.Fns := []
theorem seal_undo.fns_good (k : Nat) : (seal_undo.fns k).good Try.prog := Go.Vx.Fns.good_nil
def seal_undo.ann : List (Nat × Ann) := [(1000003, ⟨rg [(1, 2), (4, 1), (6, 9)], []⟩)]
noncomputable def seal_undo.l0 (n_ k : Nat)  (a0 : Int) (v1 : Int) (v2 : Int) : Option (Int) :=
  loopK n_ (exec Try.prog (seal_undo.fns k) seal_undo.ann k (subC [1, 1, 0, 1, 0, 0] (Go.Vx.bodyOf Try.f33))) (nmOf seal_undo.ann (subC [1, 1, 0, 1, 0, 0] (Go.Vx.bodyOf Try.f33))) ({ tmps := [AV.val (Value.int IntKind.u64 a0)] ++ dz 2 ++ [AV.val (Value.int IntKind.u64 v1), AV.dead, AV.val (Value.int IntKind.i64 v2)] ++ dz 9, ents := [], nx := 0 }) (contC Try.prog (seal_undo.fns k) seal_undo.ann k [1, 1, 0, 1, 0] [] (Go.Vx.bodyOf Try.f33) (finK Try.prog (seal_undo.s0) Try.f33.results.toList))
theorem seal_undo.l0_succ (n0 k : Nat)  (a0 : Int) (v1 : Int) (v2 : Int) : seal_undo.l0 (n0 + 1) k  a0 (v1) (v2) = (if (decide (v2 < 6)) = true then (seal_undo.l0 n0 k  a0 (IntKind.wrap IntKind.u64 (v1 * IntKind.wrap IntKind.u64 (2 - IntKind.wrap IntKind.u64 (a0 * v1)))) (IntKind.wrap IntKind.i64 (v2 + 1))) else some (v1)) := by kernel_rfl
noncomputable def seal_undo.m0 (k : Nat) (a0 : Int) : Option (Int) :=
  execF Try.prog (seal_undo.fns k) seal_undo.ann k (seal_undo.s0) 15 Try.f33.results.toList (Go.Vx.bodyOf Try.f33) a0
noncomputable def seal_undo.m : (Nat) → (Int) → Option (Int) := hide seal_undo.m0
theorem seal_undo.m_hid : seal_undo.m = seal_undo.m0 := hide_eq _
theorem seal_undo.m_eq (k : Nat) (a0 : Int) : seal_undo.m k a0 = (seal_undo.l0 k k  a0 (a0) (0)) := by
  rw [seal_undo.m_hid]
  kernel_rfl
noncomputable def seal_undo.sp (k : Nat) : Go.Vx.Spec := seal_undo.s0.runs fun (x : seal_undo.s0.argK.T) => seal_undo.m k x
theorem seal_undo.good (k : Nat) : Go.Vx.Good Try.prog 33 (seal_undo.sp k) := Go.Vx.good_runs Try.func33 (show Try.f33.body = some (Go.Vx.bodyOf Try.f33) by kernel_rfl) (by kernel_rfl) (by kernel_rfl) (seal_undo.fns_good k) (by
  intro x r h
  have h : seal_undo.m k x = some r := h
  rw [seal_undo.m_hid] at h
  exact h)
noncomputable def seal_Back.s0 : Go.Vx.Spec := ⟨[none, none], (.pair (K.int IntKind.u64) (K.int IntKind.u64)), [.im (K.int IntKind.u64)], .one (none), false, fun _ => none⟩
noncomputable def seal_Back.fns (k : Nat) : Go.Vx.Fns := [(33, seal_undo.sp k)]
theorem seal_Back.fns_good (k : Nat) : (seal_Back.fns k).good Try.prog := (Go.Vx.Fns.good_cons (seal_undo.good k) Go.Vx.Fns.good_nil)
def seal_Back.ann : List (Nat × Ann) := []
noncomputable def seal_Back.m0 (k : Nat) (a0 : Int) (a1 : Int) : Option (Int) :=
  execF Try.prog (seal_Back.fns k) seal_Back.ann k (seal_Back.s0) 20 Try.f11.results.toList (Go.Vx.bodyOf Try.f11) (a0, a1)
noncomputable def seal_Back.m : (Nat) → (Int) → (Int) → Option (Int) := hide seal_Back.m0
theorem seal_Back.m_hid : seal_Back.m = seal_Back.m0 := hide_eq _
theorem seal_Back.m_eq (k : Nat) (a0 : Int) (a1 : Int) : seal_Back.m k a0 a1 = (Option.bind (seal_undo.m k 13787848793156543929) fun (r3 : Int) => (Option.bind (seal_undo.m k 11400714819323198485) fun (r16 : Int) => some (IntKind.wrap IntKind.u64 (↑(BitVec.toNat (BitVec.ofInt (IntKind.bits IntKind.u64) (IntKind.wrap IntKind.u64 (IntKind.wrap IntKind.u64 (↑(BitVec.toNat (BitVec.ofInt (IntKind.bits IntKind.u64) (IntKind.wrap IntKind.u64 (↑(BitVec.toNat (BitVec.ofInt (IntKind.bits IntKind.u64) (IntKind.wrap IntKind.u64 (a1 * r3)) ^^^ BitVec.ofInt (IntKind.bits IntKind.u64) (shF BinOp.shr IntKind.u64 (IntKind.wrap IntKind.u64 (a1 * r3)) 29))) : Int)) ^^^ BitVec.ofInt (IntKind.bits IntKind.u64) (shF BinOp.shr IntKind.u64 (IntKind.wrap IntKind.u64 (a1 * r3)) 58))) : Int) * r16)) ^^^ BitVec.ofInt (IntKind.bits IntKind.u64) a0)) : Int)))) := by
  rw [seal_Back.m_hid]
  kernel_rfl
noncomputable def seal_Back.sp (k : Nat) : Go.Vx.Spec := seal_Back.s0.runs fun (x : seal_Back.s0.argK.T) => seal_Back.m k x.1 x.2
theorem seal_Back.good (k : Nat) : Go.Vx.Good Try.prog 11 (seal_Back.sp k) := Go.Vx.good_runs Try.func11 (show Try.f11.body = some (Go.Vx.bodyOf Try.f11) by kernel_rfl) (by kernel_rfl) (by kernel_rfl) (seal_Back.fns_good k) (by
  intro x r h
  have h : seal_Back.m k x.1 x.2 = some r := h
  rw [seal_Back.m_hid] at h
  exact h)
noncomputable def plexuslaw03_check.s0 : Go.Vx.Spec := ⟨[none, some 2, some 2], (.pair (K.int IntKind.u64) (.pair (K.pair (K.int IntKind.i64) (K.slice (K.int IntKind.u64))) (K.pair (K.int IntKind.i64) (K.int IntKind.u64)))), [.im (K.int IntKind.i64)], .one (none), false, fun _ => none⟩
noncomputable def plexuslaw03_check.fns (k : Nat) : Go.Vx.Fns := [(36, cCheck.sp k)]
theorem plexuslaw03_check.fns_good (k : Nat) : (plexuslaw03_check.fns k).good Try.prog := (Go.Vx.Fns.good_cons (cCheck.good k) Go.Vx.Fns.good_nil)
def plexuslaw03_check.ann : List (Nat × Ann) := []
noncomputable def plexuslaw03_check.m0 (k : Nat) (a0 : Int) (a1 : Int × List Int) (a2 : Int × Int) : Option (Int) :=
  execF Try.prog (plexuslaw03_check.fns k) plexuslaw03_check.ann k (plexuslaw03_check.s0) 14 Try.f15.results.toList (Go.Vx.bodyOf Try.f15) (a0, a1, a2)
noncomputable def plexuslaw03_check.m : (Nat) → (Int) → (Int × List Int) → (Int × Int) → Option (Int) := hide plexuslaw03_check.m0
theorem plexuslaw03_check.m_hid : plexuslaw03_check.m = plexuslaw03_check.m0 := hide_eq _
theorem plexuslaw03_check.m_eq (k : Nat) (a0 : Int) (a1 : Int × List Int) (a2 : Int × Int) : plexuslaw03_check.m k a0 a1 a2 = (Option.bind (P03.seal_Check.f k a0 a1.fst a2.fst a2.snd a1.snd) fun (r10 : Int) => some (r10)) := by
  rw [plexuslaw03_check.m_hid]
  rw [cCheck.hid]
  kernel_rfl
noncomputable def plexuslaw03_check.sp (k : Nat) : Go.Vx.Spec := plexuslaw03_check.s0.runs fun (x : plexuslaw03_check.s0.argK.T) => plexuslaw03_check.m k x.1 x.2.1 x.2.2
theorem plexuslaw03_check.good (k : Nat) : Go.Vx.Good Try.prog 15 (plexuslaw03_check.sp k) := Go.Vx.good_runs Try.func15 (show Try.f15.body = some (Go.Vx.bodyOf Try.f15) by kernel_rfl) (by kernel_rfl) (by kernel_rfl) (plexuslaw03_check.fns_good k) (by
  intro x r h
  have h : plexuslaw03_check.m k x.1 x.2.1 x.2.2 = some r := h
  rw [plexuslaw03_check.m_hid] at h
  exact h)
noncomputable def plexusref03_Step.s0 : Go.Vx.Spec := ⟨[none, none], (.pair (K.int IntKind.u64) (K.int IntKind.u64)), [.im (K.int IntKind.u64)], .one (none), false, fun _ => none⟩
noncomputable def plexusref03_Step.fns (k : Nat) : Go.Vx.Fns := []
theorem plexusref03_Step.fns_good (k : Nat) : (plexusref03_Step.fns k).good Try.prog := Go.Vx.Fns.good_nil
def plexusref03_Step.ann : List (Nat × Ann) := []
noncomputable def plexusref03_Step.m0 (k : Nat) (a0 : Int) (a1 : Int) : Option (Int) :=
  execF Try.prog (plexusref03_Step.fns k) plexusref03_Step.ann k (plexusref03_Step.s0) 17 Try.f19.results.toList (Go.Vx.bodyOf Try.f19) (a0, a1)
noncomputable def plexusref03_Step.m : (Nat) → (Int) → (Int) → Option (Int) := hide plexusref03_Step.m0
theorem plexusref03_Step.m_hid : plexusref03_Step.m = plexusref03_Step.m0 := hide_eq _
theorem plexusref03_Step.m_eq (k : Nat) (a0 : Int) (a1 : Int) : plexusref03_Step.m k a0 a1 = some (IntKind.wrap IntKind.u64 (IntKind.wrap IntKind.u64 (↑(BitVec.toNat (BitVec.ofInt (IntKind.bits IntKind.u64) (IntKind.wrap IntKind.u64 (IntKind.wrap IntKind.u64 (↑(BitVec.toNat (BitVec.ofInt (IntKind.bits IntKind.u64) a0 ^^^ BitVec.ofInt (IntKind.bits IntKind.u64) a1)) : Int) * 11400714819323198485)) ^^^ BitVec.ofInt (IntKind.bits IntKind.u64) (shF BinOp.shr IntKind.u64 (IntKind.wrap IntKind.u64 (IntKind.wrap IntKind.u64 (↑(BitVec.toNat (BitVec.ofInt (IntKind.bits IntKind.u64) a0 ^^^ BitVec.ofInt (IntKind.bits IntKind.u64) a1)) : Int) * 11400714819323198485)) 29))) : Int) * 13787848793156543929)) := by
  rw [plexusref03_Step.m_hid]
  kernel_rfl
noncomputable def plexusref03_Step.sp (k : Nat) : Go.Vx.Spec := plexusref03_Step.s0.runs fun (x : plexusref03_Step.s0.argK.T) => plexusref03_Step.m k x.1 x.2
theorem plexusref03_Step.good (k : Nat) : Go.Vx.Good Try.prog 19 (plexusref03_Step.sp k) := Go.Vx.good_runs Try.func19 (show Try.f19.body = some (Go.Vx.bodyOf Try.f19) by kernel_rfl) (by kernel_rfl) (by kernel_rfl) (plexusref03_Step.fns_good k) (by
  intro x r h
  have h : plexusref03_Step.m k x.1 x.2 = some r := h
  rw [plexusref03_Step.m_hid] at h
  exact h)
noncomputable def plexusref03_Grown.s0 : Go.Vx.Spec := ⟨[none, none], (.pair (K.slice (K.int IntKind.u64)) (K.int IntKind.i64)), [.own ((K.int IntKind.u64)) 22], .one (none), false, fun _ => none⟩
noncomputable def plexusref03_Grown.fns (k : Nat) : Go.Vx.Fns := [(19, plexusref03_Step.sp k)]
theorem plexusref03_Grown.fns_good (k : Nat) : (plexusref03_Grown.fns k).good Try.prog := (Go.Vx.Fns.good_cons (plexusref03_Step.good k) Go.Vx.Fns.good_nil)
def plexusref03_Grown.ann : List (Nat × Ann) := [(1000002, ⟨rg [(0, 1), (2, 3), (6, 22)], []⟩)]
noncomputable def plexusref03_Grown.l0 (n_ k : Nat)  (a1 : Int) (v1 : List Int) : Option (List Int) :=
  loopK n_ (exec Try.prog (plexusref03_Grown.fns k) plexusref03_Grown.ann k (subC [1, 1, 0, 0, 0] (Go.Vx.bodyOf Try.f12))) (nmOf plexusref03_Grown.ann (subC [1, 1, 0, 0, 0] (Go.Vx.bodyOf Try.f12))) ({ tmps := [AV.dead, AV.val (Value.int IntKind.i64 a1)] ++ dz 3 ++ [AV.own 0] ++ dz 22, ents := [(0, Ent.row { k := K.int IntKind.u64, T := 22, fz := false, xs := v1 })], nx := 1 }) (contC Try.prog (plexusref03_Grown.fns k) plexusref03_Grown.ann k [1, 1, 0, 0] [] (Go.Vx.bodyOf Try.f12) (finK Try.prog (plexusref03_Grown.s0) Try.f12.results.toList))
theorem plexusref03_Grown.l0_succ (n0 k : Nat)  (a1 : Int) (v1 : List Int) : plexusref03_Grown.l0 (n0 + 1) k  a1 (v1) = (if (decide ((↑(List.length v1) : Int) < a1)) = true then (Option.bind (plexusref03_Step.m k (IntKind.wrap IntKind.u64 (↑(List.length v1) : Int)) (IntKind.wrap IntKind.u64 a1)) fun (r58 : Int) => (if (List.length v1 + List.length [r58]) * 8 ≤ 140737488355328 then (plexusref03_Grown.l0 n0 k  a1 (v1 ++ [r58])) else none)) else some (v1)) := by kernel_rfl
noncomputable def plexusref03_Grown.m0 (k : Nat) (a0 : List Int) (a1 : Int) : Option (List Int) :=
  execF Try.prog (plexusref03_Grown.fns k) plexusref03_Grown.ann k (plexusref03_Grown.s0) 28 Try.f12.results.toList (Go.Vx.bodyOf Try.f12) (a0, a1)
noncomputable def plexusref03_Grown.m : (Nat) → (List Int) → (Int) → Option (List Int) := hide plexusref03_Grown.m0
theorem plexusref03_Grown.m_hid : plexusref03_Grown.m = plexusref03_Grown.m0 := hide_eq _
theorem plexusref03_Grown.m_eq (k : Nat) (a0 : List Int) (a1 : Int) : plexusref03_Grown.m k a0 a1 = (if 0 ≤ mnF (↑(List.length a0) : Int) a1 then (if mnF (↑(List.length a0) : Int) a1 ≤ (↑(List.length a0) : Int) then (if (0 + List.length (List.take (Int.toNat (mnF (↑(List.length a0) : Int) a1)) a0)) * 8 ≤ 140737488355328 then (plexusref03_Grown.l0 k k  a1 ([] ++ List.take (Int.toNat (mnF (↑(List.length a0) : Int) a1)) a0)) else none) else none) else none) := by
  rw [plexusref03_Grown.m_hid]
  kernel_rfl
noncomputable def plexusref03_Grown.sp (k : Nat) : Go.Vx.Spec := plexusref03_Grown.s0.runs fun (x : plexusref03_Grown.s0.argK.T) => plexusref03_Grown.m k x.1 x.2
theorem plexusref03_Grown.good (k : Nat) : Go.Vx.Good Try.prog 12 (plexusref03_Grown.sp k) := Go.Vx.good_runs Try.func12 (show Try.f12.body = some (Go.Vx.bodyOf Try.f12) by kernel_rfl) (by kernel_rfl) (by kernel_rfl) (plexusref03_Grown.fns_good k) (by
  intro x r h
  have h : plexusref03_Grown.m k x.1 x.2 = some r := h
  rw [plexusref03_Grown.m_hid] at h
  exact h)
noncomputable def plexusref03_inverse.s0 : Go.Vx.Spec := ⟨[none], (K.int IntKind.u64), [.im (K.int IntKind.u64)], .one (none), false, fun _ => none⟩
noncomputable def plexusref03_inverse.fns (k : Nat) : Go.Vx.Fns := []
theorem plexusref03_inverse.fns_good (k : Nat) : (plexusref03_inverse.fns k).good Try.prog := Go.Vx.Fns.good_nil
def plexusref03_inverse.ann : List (Nat × Ann) := [(1000003, ⟨rg [(1, 2), (5, 12)], []⟩)]
noncomputable def plexusref03_inverse.l0 (n_ k : Nat)  (a0 : Int) (v1 : Int) (v2 : Int) : Option (Int) :=
  loopK n_ (exec Try.prog (plexusref03_inverse.fns k) plexusref03_inverse.ann k (subC [1, 1, 0, 1, 0, 0] (Go.Vx.bodyOf Try.f38))) (nmOf plexusref03_inverse.ann (subC [1, 1, 0, 1, 0, 0] (Go.Vx.bodyOf Try.f38))) ({ tmps := [AV.val (Value.int IntKind.u64 a0)] ++ dz 2 ++ [AV.val (Value.int IntKind.u64 v1), AV.val (Value.int IntKind.i64 v2)] ++ dz 12, ents := [], nx := 0 }) (contC Try.prog (plexusref03_inverse.fns k) plexusref03_inverse.ann k [1, 1, 0, 1, 0] [] (Go.Vx.bodyOf Try.f38) (finK Try.prog (plexusref03_inverse.s0) Try.f38.results.toList))
theorem plexusref03_inverse.l0_succ (n0 k : Nat)  (a0 : Int) (v1 : Int) (v2 : Int) : plexusref03_inverse.l0 (n0 + 1) k  a0 (v1) (v2) = (if (decide (v2 < 6)) = true then (plexusref03_inverse.l0 n0 k  a0 (IntKind.wrap IntKind.u64 (v1 * IntKind.wrap IntKind.u64 (2 - IntKind.wrap IntKind.u64 (a0 * v1)))) (IntKind.wrap IntKind.i64 (v2 + 1))) else some (v1)) := by kernel_rfl
noncomputable def plexusref03_inverse.m0 (k : Nat) (a0 : Int) : Option (Int) :=
  execF Try.prog (plexusref03_inverse.fns k) plexusref03_inverse.ann k (plexusref03_inverse.s0) 17 Try.f38.results.toList (Go.Vx.bodyOf Try.f38) a0
noncomputable def plexusref03_inverse.m : (Nat) → (Int) → Option (Int) := hide plexusref03_inverse.m0
theorem plexusref03_inverse.m_hid : plexusref03_inverse.m = plexusref03_inverse.m0 := hide_eq _
theorem plexusref03_inverse.m_eq (k : Nat) (a0 : Int) : plexusref03_inverse.m k a0 = (plexusref03_inverse.l0 k k  a0 (a0) (0)) := by
  rw [plexusref03_inverse.m_hid]
  kernel_rfl
noncomputable def plexusref03_inverse.sp (k : Nat) : Go.Vx.Spec := plexusref03_inverse.s0.runs fun (x : plexusref03_inverse.s0.argK.T) => plexusref03_inverse.m k x
theorem plexusref03_inverse.good (k : Nat) : Go.Vx.Good Try.prog 38 (plexusref03_inverse.sp k) := Go.Vx.good_runs Try.func38 (show Try.f38.body = some (Go.Vx.bodyOf Try.f38) by kernel_rfl) (by kernel_rfl) (by kernel_rfl) (plexusref03_inverse.fns_good k) (by
  intro x r h
  have h : plexusref03_inverse.m k x = some r := h
  rw [plexusref03_inverse.m_hid] at h
  exact h)
noncomputable def plexusref03_Back.s0 : Go.Vx.Spec := ⟨[none, none], (.pair (K.int IntKind.u64) (K.int IntKind.u64)), [.im (K.int IntKind.u64)], .one (none), false, fun _ => none⟩
noncomputable def plexusref03_Back.fns (k : Nat) : Go.Vx.Fns := [(38, plexusref03_inverse.sp k)]
theorem plexusref03_Back.fns_good (k : Nat) : (plexusref03_Back.fns k).good Try.prog := (Go.Vx.Fns.good_cons (plexusref03_inverse.good k) Go.Vx.Fns.good_nil)
def plexusref03_Back.ann : List (Nat × Ann) := []
noncomputable def plexusref03_Back.m0 (k : Nat) (a0 : Int) (a1 : Int) : Option (Int) :=
  execF Try.prog (plexusref03_Back.fns k) plexusref03_Back.ann k (plexusref03_Back.s0) 22 Try.f20.results.toList (Go.Vx.bodyOf Try.f20) (a0, a1)
noncomputable def plexusref03_Back.m : (Nat) → (Int) → (Int) → Option (Int) := hide plexusref03_Back.m0
theorem plexusref03_Back.m_hid : plexusref03_Back.m = plexusref03_Back.m0 := hide_eq _
theorem plexusref03_Back.m_eq (k : Nat) (a0 : Int) (a1 : Int) : plexusref03_Back.m k a0 a1 = (Option.bind (plexusref03_inverse.m k 13787848793156543929) fun (r3 : Int) => (Option.bind (plexusref03_inverse.m k 11400714819323198485) fun (r18 : Int) => some (IntKind.wrap IntKind.u64 (↑(BitVec.toNat (BitVec.ofInt (IntKind.bits IntKind.u64) (IntKind.wrap IntKind.u64 (IntKind.wrap IntKind.u64 (↑(BitVec.toNat (BitVec.ofInt (IntKind.bits IntKind.u64) (IntKind.wrap IntKind.u64 (↑(BitVec.toNat (BitVec.ofInt (IntKind.bits IntKind.u64) (IntKind.wrap IntKind.u64 (a1 * r3)) ^^^ BitVec.ofInt (IntKind.bits IntKind.u64) (shF BinOp.shr IntKind.u64 (IntKind.wrap IntKind.u64 (a1 * r3)) 29))) : Int)) ^^^ BitVec.ofInt (IntKind.bits IntKind.u64) (shF BinOp.shr IntKind.u64 (IntKind.wrap IntKind.u64 (a1 * r3)) 58))) : Int) * r18)) ^^^ BitVec.ofInt (IntKind.bits IntKind.u64) a0)) : Int)))) := by
  rw [plexusref03_Back.m_hid]
  kernel_rfl
noncomputable def plexusref03_Back.sp (k : Nat) : Go.Vx.Spec := plexusref03_Back.s0.runs fun (x : plexusref03_Back.s0.argK.T) => plexusref03_Back.m k x.1 x.2
theorem plexusref03_Back.good (k : Nat) : Go.Vx.Good Try.prog 20 (plexusref03_Back.sp k) := Go.Vx.good_runs Try.func20 (show Try.f20.body = some (Go.Vx.bodyOf Try.f20) by kernel_rfl) (by kernel_rfl) (by kernel_rfl) (plexusref03_Back.fns_good k) (by
  intro x r h
  have h : plexusref03_Back.m k x.1 x.2 = some r := h
  rw [plexusref03_Back.m_hid] at h
  exact h)
noncomputable def plexusref03_Words.s0 : Go.Vx.Spec := ⟨[none], (K.slice (K.int IntKind.i64)), [.im (K.int IntKind.u64)], .one (none), false, fun _ => none⟩
noncomputable def plexusref03_Words.fns (k : Nat) : Go.Vx.Fns := [(19, plexusref03_Step.sp k)]
theorem plexusref03_Words.fns_good (k : Nat) : (plexusref03_Words.fns k).good Try.prog := (Go.Vx.Fns.good_cons (plexusref03_Step.good k) Go.Vx.Fns.good_nil)
def plexusref03_Words.ann : List (Nat × Ann) := [(1000003, ⟨rg [(1, 2), (5, 18)], []⟩)]
noncomputable def plexusref03_Words.l0 (n_ k : Nat)  (a0 : List Int) (v1 : Int) (v2 : Int) : Option (Int) :=
  loopK n_ (exec Try.prog (plexusref03_Words.fns k) plexusref03_Words.ann k (subC [1, 1, 0, 1, 0, 0] (Go.Vx.bodyOf Try.f22))) (nmOf plexusref03_Words.ann (subC [1, 1, 0, 1, 0, 0] (Go.Vx.bodyOf Try.f22))) ({ tmps := [AV.sh (K.int IntKind.i64) a0] ++ dz 2 ++ [AV.val (Value.int IntKind.u64 v1), AV.val (Value.int IntKind.i64 v2)] ++ dz 18, ents := [], nx := 0 }) (contC Try.prog (plexusref03_Words.fns k) plexusref03_Words.ann k [1, 1, 0, 1, 0] [] (Go.Vx.bodyOf Try.f22) (finK Try.prog (plexusref03_Words.s0) Try.f22.results.toList))
theorem plexusref03_Words.l0_succ (n0 k : Nat)  (a0 : List Int) (v1 : Int) (v2 : Int) : plexusref03_Words.l0 (n0 + 1) k  a0 (v1) (v2) = (if (decide (v2 < (↑(List.length a0) : Int))) = true then (if 0 ≤ v2 then (if v2 < (↑(List.length a0) : Int) then (Option.bind (plexusref03_Step.m k v1 (IntKind.wrap IntKind.u64 (List.getD a0 (Int.toNat v2) (Int.ofNat 0)))) fun (r55 : Int) => (plexusref03_Words.l0 n0 k  a0 (r55) (IntKind.wrap IntKind.i64 (v2 + 1)))) else none) else none) else (Option.bind (plexusref03_Step.m k v1 (IntKind.wrap IntKind.u64 (↑(List.length a0) : Int))) fun (r67 : Int) => some (r67))) := by kernel_rfl
noncomputable def plexusref03_Words.m0 (k : Nat) (a0 : List Int) : Option (Int) :=
  execF Try.prog (plexusref03_Words.fns k) plexusref03_Words.ann k (plexusref03_Words.s0) 23 Try.f22.results.toList (Go.Vx.bodyOf Try.f22) a0
noncomputable def plexusref03_Words.m : (Nat) → (List Int) → Option (Int) := hide plexusref03_Words.m0
theorem plexusref03_Words.m_hid : plexusref03_Words.m = plexusref03_Words.m0 := hide_eq _
theorem plexusref03_Words.m_eq (k : Nat) (a0 : List Int) : plexusref03_Words.m k a0 = (plexusref03_Words.l0 k k  a0 (123610861172083) (0)) := by
  rw [plexusref03_Words.m_hid]
  kernel_rfl
noncomputable def plexusref03_Words.sp (k : Nat) : Go.Vx.Spec := plexusref03_Words.s0.runs fun (x : plexusref03_Words.s0.argK.T) => plexusref03_Words.m k x
theorem plexusref03_Words.good (k : Nat) : Go.Vx.Good Try.prog 22 (plexusref03_Words.sp k) := Go.Vx.good_runs Try.func22 (show Try.f22.body = some (Go.Vx.bodyOf Try.f22) by kernel_rfl) (by kernel_rfl) (by kernel_rfl) (plexusref03_Words.fns_good k) (by
  intro x r h
  have h : plexusref03_Words.m k x = some r := h
  rw [plexusref03_Words.m_hid] at h
  exact h)
noncomputable def plexusref03_Bytes.s0 : Go.Vx.Spec := ⟨[none], (K.slice (K.int IntKind.u8)), [.im (K.int IntKind.u64)], .one (none), false, fun _ => none⟩
noncomputable def plexusref03_Bytes.fns (k : Nat) : Go.Vx.Fns := [(19, plexusref03_Step.sp k)]
theorem plexusref03_Bytes.fns_good (k : Nat) : (plexusref03_Bytes.fns k).good Try.prog := (Go.Vx.Fns.good_cons (plexusref03_Step.good k) Go.Vx.Fns.good_nil)
def plexusref03_Bytes.ann : List (Nat × Ann) := [(1000007, ⟨rg [(1, 2), (7, 39)], []⟩), (1000003, ⟨rg [(1, 2), (5, 41)], []⟩)]
noncomputable def plexusref03_Bytes.l1 (n_ k : Nat) (n0 : Nat) (a0 : List Int) (v1 : Int) (v2 : Int) (v3 : Int) (v4 : Int) : Option (Int) :=
  loopK n_ (exec Try.prog (plexusref03_Bytes.fns k) plexusref03_Bytes.ann k (subC [1, 1, 0, 1, 0, 0, 1, 0, 0, 1, 0, 1, 0, 0] (Go.Vx.bodyOf Try.f24))) (nmOf plexusref03_Bytes.ann (subC [1, 1, 0, 1, 0, 0, 1, 0, 0, 1, 0, 1, 0, 0] (Go.Vx.bodyOf Try.f24))) ({ tmps := [AV.sh (K.int IntKind.u8) a0] ++ dz 2 ++ [AV.val (Value.int IntKind.u64 v1), AV.val (Value.int IntKind.i64 v2), AV.val (Value.int IntKind.u64 v3), AV.val (Value.int IntKind.i64 v4)] ++ dz 39, ents := [], nx := 0 }) (contC Try.prog (plexusref03_Bytes.fns k) plexusref03_Bytes.ann k [1, 1, 0, 1, 0, 0, 1, 0, 0, 1, 0, 1, 0] [n0] (Go.Vx.bodyOf Try.f24) (finK Try.prog (plexusref03_Bytes.s0) Try.f24.results.toList))
noncomputable def plexusref03_Bytes.l0 (n_ k : Nat)  (a0 : List Int) (v1 : Int) (v2 : Int) : Option (Int) :=
  loopK n_ (exec Try.prog (plexusref03_Bytes.fns k) plexusref03_Bytes.ann k (subC [1, 1, 0, 1, 0, 0] (Go.Vx.bodyOf Try.f24))) (nmOf plexusref03_Bytes.ann (subC [1, 1, 0, 1, 0, 0] (Go.Vx.bodyOf Try.f24))) ({ tmps := [AV.sh (K.int IntKind.u8) a0] ++ dz 2 ++ [AV.val (Value.int IntKind.u64 v1), AV.val (Value.int IntKind.i64 v2)] ++ dz 41, ents := [], nx := 0 }) (contC Try.prog (plexusref03_Bytes.fns k) plexusref03_Bytes.ann k [1, 1, 0, 1, 0] [] (Go.Vx.bodyOf Try.f24) (finK Try.prog (plexusref03_Bytes.s0) Try.f24.results.toList))
theorem plexusref03_Bytes.l1_succ (n1 k : Nat) (n0 : Nat) (a0 : List Int) (v1 : Int) (v2 : Int) (v3 : Int) (v4 : Int) : plexusref03_Bytes.l1 (n1 + 1) k n0 a0 v1 v2 (v3) (v4) = (if decide (v4 < 8) = true then (if (decide (IntKind.wrap IntKind.i64 (v2 + v4) < (↑(List.length a0) : Int))) = true then (if 0 ≤ IntKind.wrap IntKind.i64 (v2 + v4) then (if IntKind.wrap IntKind.i64 (v2 + v4) < (↑(List.length a0) : Int) then (if IntKind.wrap IntKind.u64 (IntKind.wrap IntKind.i64 (8 * v4)) < 0 then none else (plexusref03_Bytes.l1 n1 k n0 a0 v1 v2 (IntKind.wrap IntKind.u64 (↑(BitVec.toNat (BitVec.ofInt (IntKind.bits IntKind.u64) v3 ||| BitVec.ofInt (IntKind.bits IntKind.u64) (shF BinOp.shl IntKind.u64 (IntKind.wrap IntKind.u64 (List.getD a0 (Int.toNat (IntKind.wrap IntKind.i64 (v2 + v4))) (Int.ofNat 0))) (IntKind.wrap IntKind.u64 (IntKind.wrap IntKind.i64 (8 * v4)))))) : Int)) (IntKind.wrap IntKind.i64 (v4 + 1)))) else none) else none) else (Option.bind (plexusref03_Step.m k v1 v3) fun (r477 : Int) => (plexusref03_Bytes.l0 n0 k  a0 (r477) (IntKind.wrap IntKind.i64 (v2 + 8))))) else (Option.bind (plexusref03_Step.m k v1 v3) fun (r498 : Int) => (plexusref03_Bytes.l0 n0 k  a0 (r498) (IntKind.wrap IntKind.i64 (v2 + 8))))) := by kernel_rfl
theorem plexusref03_Bytes.l0_succ (n0 k : Nat)  (a0 : List Int) (v1 : Int) (v2 : Int) : plexusref03_Bytes.l0 (n0 + 1) k  a0 (v1) (v2) = (if (decide (v2 < (↑(List.length a0) : Int))) = true then (plexusref03_Bytes.l1 k k n0 a0 v1 v2 (0) (0)) else (Option.bind (plexusref03_Step.m k v1 (IntKind.wrap IntKind.u64 (↑(List.length a0) : Int))) fun (r508 : Int) => some (r508))) := by kernel_rfl
noncomputable def plexusref03_Bytes.m0 (k : Nat) (a0 : List Int) : Option (Int) :=
  execF Try.prog (plexusref03_Bytes.fns k) plexusref03_Bytes.ann k (plexusref03_Bytes.s0) 46 Try.f24.results.toList (Go.Vx.bodyOf Try.f24) a0
noncomputable def plexusref03_Bytes.m : (Nat) → (List Int) → Option (Int) := hide plexusref03_Bytes.m0
theorem plexusref03_Bytes.m_hid : plexusref03_Bytes.m = plexusref03_Bytes.m0 := hide_eq _
theorem plexusref03_Bytes.m_eq (k : Nat) (a0 : List Int) : plexusref03_Bytes.m k a0 = (plexusref03_Bytes.l0 k k  a0 (1818321765) (0)) := by
  rw [plexusref03_Bytes.m_hid]
  kernel_rfl
noncomputable def plexusref03_Bytes.sp (k : Nat) : Go.Vx.Spec := plexusref03_Bytes.s0.runs fun (x : plexusref03_Bytes.s0.argK.T) => plexusref03_Bytes.m k x
theorem plexusref03_Bytes.good (k : Nat) : Go.Vx.Good Try.prog 24 (plexusref03_Bytes.sp k) := Go.Vx.good_runs Try.func24 (show Try.f24.body = some (Go.Vx.bodyOf Try.f24) by kernel_rfl) (by kernel_rfl) (by kernel_rfl) (plexusref03_Bytes.fns_good k) (by
  intro x r h
  have h : plexusref03_Bytes.m k x = some r := h
  rw [plexusref03_Bytes.m_hid] at h
  exact h)
noncomputable def plexusref03_Join.s0 : Go.Vx.Spec := ⟨[none, none], (.pair (K.int IntKind.u64) (K.int IntKind.u64)), [.im (K.int IntKind.u64)], .one (none), false, fun _ => none⟩
noncomputable def plexusref03_Join.fns (k : Nat) : Go.Vx.Fns := [(19, plexusref03_Step.sp k)]
theorem plexusref03_Join.fns_good (k : Nat) : (plexusref03_Join.fns k).good Try.prog := (Go.Vx.Fns.good_cons (plexusref03_Step.good k) Go.Vx.Fns.good_nil)
def plexusref03_Join.ann : List (Nat × Ann) := []
noncomputable def plexusref03_Join.m0 (k : Nat) (a0 : Int) (a1 : Int) : Option (Int) :=
  execF Try.prog (plexusref03_Join.fns k) plexusref03_Join.ann k (plexusref03_Join.s0) 9 Try.f26.results.toList (Go.Vx.bodyOf Try.f26) (a0, a1)
noncomputable def plexusref03_Join.m : (Nat) → (Int) → (Int) → Option (Int) := hide plexusref03_Join.m0
theorem plexusref03_Join.m_hid : plexusref03_Join.m = plexusref03_Join.m0 := hide_eq _
theorem plexusref03_Join.m_eq (k : Nat) (a0 : Int) (a1 : Int) : plexusref03_Join.m k a0 a1 = (Option.bind (plexusref03_Step.m k 1785686382 a0) fun (r3 : Int) => (Option.bind (plexusref03_Step.m k r3 a1) fun (r6 : Int) => some (r6))) := by
  rw [plexusref03_Join.m_hid]
  kernel_rfl
noncomputable def plexusref03_Join.sp (k : Nat) : Go.Vx.Spec := plexusref03_Join.s0.runs fun (x : plexusref03_Join.s0.argK.T) => plexusref03_Join.m k x.1 x.2
theorem plexusref03_Join.good (k : Nat) : Go.Vx.Good Try.prog 26 (plexusref03_Join.sp k) := Go.Vx.good_runs Try.func26 (show Try.f26.body = some (Go.Vx.bodyOf Try.f26) by kernel_rfl) (by kernel_rfl) (by kernel_rfl) (plexusref03_Join.fns_good k) (by
  intro x r h
  have h : plexusref03_Join.m k x.1 x.2 = some r := h
  rw [plexusref03_Join.m_hid] at h
  exact h)
noncomputable def seal_Tag.s0 : Go.Vx.Spec := ⟨[none, none], (.pair (K.int IntKind.u64) (K.slice (K.int IntKind.i64))), [.im (K.int IntKind.u64)], .one (none), false, fun _ => none⟩
noncomputable def seal_Tag.fns (k : Nat) : Go.Vx.Fns := [(21, cWords.sp k), (10, seal_Step.sp k)]
theorem seal_Tag.fns_good (k : Nat) : (seal_Tag.fns k).good Try.prog := (Go.Vx.Fns.good_cons (cWords.good k) (Go.Vx.Fns.good_cons (seal_Step.good k) Go.Vx.Fns.good_nil))
def seal_Tag.ann : List (Nat × Ann) := []
noncomputable def seal_Tag.m0 (k : Nat) (a0 : Int) (a1 : List Int) : Option (Int) :=
  execF Try.prog (seal_Tag.fns k) seal_Tag.ann k (seal_Tag.s0) 9 Try.f27.results.toList (Go.Vx.bodyOf Try.f27) (a0, a1)
noncomputable def seal_Tag.m : (Nat) → (Int) → (List Int) → Option (Int) := hide seal_Tag.m0
theorem seal_Tag.m_hid : seal_Tag.m = seal_Tag.m0 := hide_eq _
theorem seal_Tag.m_eq (k : Nat) (a0 : Int) (a1 : List Int) : seal_Tag.m k a0 a1 = (Option.bind (P03.seal_Words.f a1) fun (r4 : Int) => (Option.bind (seal_Step.m k a0 r4) fun (r6 : Int) => some (r6))) := by
  rw [seal_Tag.m_hid]
  rw [cWords.hid]
  kernel_rfl
noncomputable def seal_Tag.sp (k : Nat) : Go.Vx.Spec := seal_Tag.s0.runs fun (x : seal_Tag.s0.argK.T) => seal_Tag.m k x.1 x.2
theorem seal_Tag.good (k : Nat) : Go.Vx.Good Try.prog 27 (seal_Tag.sp k) := Go.Vx.good_runs Try.func27 (show Try.f27.body = some (Go.Vx.bodyOf Try.f27) by kernel_rfl) (by kernel_rfl) (by kernel_rfl) (seal_Tag.fns_good k) (by
  intro x r h
  have h : seal_Tag.m k x.1 x.2 = some r := h
  rw [seal_Tag.m_hid] at h
  exact h)
noncomputable def plexusref03_Tag.s0 : Go.Vx.Spec := ⟨[none, none], (.pair (K.int IntKind.u64) (K.slice (K.int IntKind.i64))), [.im (K.int IntKind.u64)], .one (none), false, fun _ => none⟩
noncomputable def plexusref03_Tag.fns (k : Nat) : Go.Vx.Fns := [(22, plexusref03_Words.sp k), (19, plexusref03_Step.sp k)]
theorem plexusref03_Tag.fns_good (k : Nat) : (plexusref03_Tag.fns k).good Try.prog := (Go.Vx.Fns.good_cons (plexusref03_Words.good k) (Go.Vx.Fns.good_cons (plexusref03_Step.good k) Go.Vx.Fns.good_nil))
def plexusref03_Tag.ann : List (Nat × Ann) := []
noncomputable def plexusref03_Tag.m0 (k : Nat) (a0 : Int) (a1 : List Int) : Option (Int) :=
  execF Try.prog (plexusref03_Tag.fns k) plexusref03_Tag.ann k (plexusref03_Tag.s0) 9 Try.f28.results.toList (Go.Vx.bodyOf Try.f28) (a0, a1)
noncomputable def plexusref03_Tag.m : (Nat) → (Int) → (List Int) → Option (Int) := hide plexusref03_Tag.m0
theorem plexusref03_Tag.m_hid : plexusref03_Tag.m = plexusref03_Tag.m0 := hide_eq _
theorem plexusref03_Tag.m_eq (k : Nat) (a0 : Int) (a1 : List Int) : plexusref03_Tag.m k a0 a1 = (Option.bind (plexusref03_Words.m k a1) fun (r4 : Int) => (Option.bind (plexusref03_Step.m k a0 r4) fun (r6 : Int) => some (r6))) := by
  rw [plexusref03_Tag.m_hid]
  kernel_rfl
noncomputable def plexusref03_Tag.sp (k : Nat) : Go.Vx.Spec := plexusref03_Tag.s0.runs fun (x : plexusref03_Tag.s0.argK.T) => plexusref03_Tag.m k x.1 x.2
theorem plexusref03_Tag.good (k : Nat) : Go.Vx.Good Try.prog 28 (plexusref03_Tag.sp k) := Go.Vx.good_runs Try.func28 (show Try.f28.body = some (Go.Vx.bodyOf Try.f28) by kernel_rfl) (by kernel_rfl) (by kernel_rfl) (plexusref03_Tag.fns_good k) (by
  intro x r h
  have h : plexusref03_Tag.m k x.1 x.2 = some r := h
  rw [plexusref03_Tag.m_hid] at h
  exact h)
noncomputable def plexusref03_OpenIn.s0 : Go.Vx.Spec := ⟨[none, none], (.pair (K.slice (K.int IntKind.u64)) (K.int IntKind.i64)), [.im (K.pair (K.slice (K.int IntKind.u64)) (K.int IntKind.i64))], .one (some 2), true, fun _ => none⟩
noncomputable def plexusref03_OpenIn.fns (k : Nat) : Go.Vx.Fns := [(42, rPath.sp k)]
theorem plexusref03_OpenIn.fns_good (k : Nat) : (plexusref03_OpenIn.fns k).good Try.prog := (Go.Vx.Fns.good_cons (rPath.good k) Go.Vx.Fns.good_nil)
def plexusref03_OpenIn.ann : List (Nat × Ann) := []
noncomputable def plexusref03_OpenIn.m0 (k : Nat) (a0 : List Int) (a1 : Int) : Option (List Int × Int) :=
  execF Try.prog (plexusref03_OpenIn.fns k) plexusref03_OpenIn.ann k (plexusref03_OpenIn.s0) 18 Try.f30.results.toList (Go.Vx.bodyOf Try.f30) (a0, a1)
noncomputable def plexusref03_OpenIn.m : (Nat) → (List Int) → (Int) → Option (List Int × Int) := hide plexusref03_OpenIn.m0
theorem plexusref03_OpenIn.m_hid : plexusref03_OpenIn.m = plexusref03_OpenIn.m0 := hide_eq _
theorem plexusref03_OpenIn.m_eq (k : Nat) (a0 : List Int) (a1 : Int) : plexusref03_OpenIn.m k a0 a1 = (if decide (a1 < 0) = true then some (([], 1)) else (if (decide (a1 ≥ (↑(List.length a0) : Int))) = true then some (([], 1)) else (Option.bind (P03.plexusref03_path.f k a0 a1) fun (r32 : List Int) => some ((r32, 0))))) := by
  rw [plexusref03_OpenIn.m_hid]
  rw [rPath.hid]
  kernel_rfl
noncomputable def plexusref03_OpenIn.sp (k : Nat) : Go.Vx.Spec := plexusref03_OpenIn.s0.runs fun (x : plexusref03_OpenIn.s0.argK.T) => plexusref03_OpenIn.m k x.1 x.2
theorem plexusref03_OpenIn.good (k : Nat) : Go.Vx.Good Try.prog 30 (plexusref03_OpenIn.sp k) := Go.Vx.good_runs Try.func30 (show Try.f30.body = some (Go.Vx.bodyOf Try.f30) by kernel_rfl) (by kernel_rfl) (by kernel_rfl) (plexusref03_OpenIn.fns_good k) (by
  intro x r h
  have h : plexusref03_OpenIn.m k x.1 x.2 = some r := h
  rw [plexusref03_OpenIn.m_hid] at h
  exact h)
noncomputable def plexusref03_Up.s0 : Go.Vx.Spec := ⟨[none, none, none], (.pair (K.int IntKind.u64) (.pair (K.int IntKind.u64) (K.bool))), [.im (K.int IntKind.u64)], .one (none), false, fun _ => none⟩
noncomputable def plexusref03_Up.fns (k : Nat) : Go.Vx.Fns := [(26, plexusref03_Join.sp k)]
theorem plexusref03_Up.fns_good (k : Nat) : (plexusref03_Up.fns k).good Try.prog := (Go.Vx.Fns.good_cons (plexusref03_Join.good k) Go.Vx.Fns.good_nil)
def plexusref03_Up.ann : List (Nat × Ann) := []
noncomputable def plexusref03_Up.m0 (k : Nat) (a0 : Int) (a1 : Int) (a2 : Bool) : Option (Int) :=
  execF Try.prog (plexusref03_Up.fns k) plexusref03_Up.ann k (plexusref03_Up.s0) 14 Try.f18.results.toList (Go.Vx.bodyOf Try.f18) (a0, a1, a2)
noncomputable def plexusref03_Up.m : (Nat) → (Int) → (Int) → (Bool) → Option (Int) := hide plexusref03_Up.m0
theorem plexusref03_Up.m_hid : plexusref03_Up.m = plexusref03_Up.m0 := hide_eq _
theorem plexusref03_Up.m_eq (k : Nat) (a0 : Int) (a1 : Int) (a2 : Bool) : plexusref03_Up.m k a0 a1 a2 = (if (a2) = true then (Option.bind (plexusref03_Join.m k a0 a1) fun (r5 : Int) => some (r5)) else (Option.bind (plexusref03_Join.m k a1 a0) fun (r11 : Int) => some (r11))) := by
  rw [plexusref03_Up.m_hid]
  kernel_rfl
noncomputable def plexusref03_Up.sp (k : Nat) : Go.Vx.Spec := plexusref03_Up.s0.runs fun (x : plexusref03_Up.s0.argK.T) => plexusref03_Up.m k x.1 x.2.1 x.2.2
theorem plexusref03_Up.good (k : Nat) : Go.Vx.Good Try.prog 18 (plexusref03_Up.sp k) := Go.Vx.good_runs Try.func18 (show Try.f18.body = some (Go.Vx.bodyOf Try.f18) by kernel_rfl) (by kernel_rfl) (by kernel_rfl) (plexusref03_Up.fns_good k) (by
  intro x r h
  have h : plexusref03_Up.m k x.1 x.2.1 x.2.2 = some r := h
  rw [plexusref03_Up.m_hid] at h
  exact h)
noncomputable def plexusref03_Check.s0 : Go.Vx.Spec := ⟨[none, some 2, some 2], (.pair (K.int IntKind.u64) (.pair (K.pair (K.int IntKind.i64) (K.slice (K.int IntKind.u64))) (K.pair (K.int IntKind.i64) (K.int IntKind.u64)))), [.im (K.int IntKind.i64)], .one (none), false, fun _ => none⟩
noncomputable def plexusref03_Check.fns (k : Nat) : Go.Vx.Fns := [(17, rSides.sp k), (18, plexusref03_Up.sp k)]
theorem plexusref03_Check.fns_good (k : Nat) : (plexusref03_Check.fns k).good Try.prog := (Go.Vx.Fns.good_cons (rSides.good k) (Go.Vx.Fns.good_cons (plexusref03_Up.good k) Go.Vx.Fns.good_nil))
def plexusref03_Check.ann : List (Nat × Ann) := [(1000008, ⟨rg [(1, 3), (5, 2), (10, 48)], []⟩)]
noncomputable def plexusref03_Check.l0 (n_ k : Nat)  (a0 : Int) (a1 : Int × List Int) (r66 : List Bool) (v1 : Int) (v2 : Int) : Option (Int) :=
  loopK n_ (exec Try.prog (plexusref03_Check.fns k) plexusref03_Check.ann k (subC [1, 1, 1, 1, 1, 0, 1, 0, 0] (Go.Vx.bodyOf Try.f31))) (nmOf plexusref03_Check.ann (subC [1, 1, 1, 1, 1, 0, 1, 0, 0] (Go.Vx.bodyOf Try.f31))) ({ tmps := [AV.val (Value.int IntKind.u64 a0)] ++ dz 3 ++ [AV.ptr 0 0] ++ dz 2 ++ [AV.own 1, AV.val (Value.int IntKind.u64 v1), AV.val (Value.int IntKind.i64 v2)] ++ dz 48, ents := [(0, Ent.box 39 [AV.val (Value.int IntKind.i64 a1.fst), AV.sh (K.int IntKind.u64) a1.snd]), (1, Ent.row { k := K.bool, T := 4, fz := false, xs := r66 })], nx := 2 }) (contC Try.prog (plexusref03_Check.fns k) plexusref03_Check.ann k [1, 1, 1, 1, 1, 0, 1, 0] [] (Go.Vx.bodyOf Try.f31) (finK Try.prog (plexusref03_Check.s0) Try.f31.results.toList))
theorem plexusref03_Check.l0_succ (n0 k : Nat)  (a0 : Int) (a1 : Int × List Int) (r66 : List Bool) (v1 : Int) (v2 : Int) : plexusref03_Check.l0 (n0 + 1) k  a0 a1 r66 (v1) (v2) = (if (decide (v2 < (↑(List.length r66) : Int))) = true then (if 0 ≤ v2 then (if v2 < (↑(List.length a1.snd) : Int) then (if 0 ≤ v2 then (if v2 < (↑(List.length r66) : Int) then (Option.bind (plexusref03_Up.m k v1 (List.getD a1.snd (Int.toNat v2) (Int.ofNat 0)) (List.getD r66 (Int.toNat v2) false)) fun (r153 : Int) => (plexusref03_Check.l0 n0 k  a0 a1 r66 (r153) (IntKind.wrap IntKind.i64 (v2 + 1)))) else none) else none) else none) else none) else (if (v1 != a0) = true then some (6) else some (0))) := by kernel_rfl
noncomputable def plexusref03_Check.m0 (k : Nat) (a0 : Int) (a1 : Int × List Int) (a2 : Int × Int) : Option (Int) :=
  execF Try.prog (plexusref03_Check.fns k) plexusref03_Check.ann k (plexusref03_Check.s0) 58 Try.f31.results.toList (Go.Vx.bodyOf Try.f31) (a0, a1, a2)
noncomputable def plexusref03_Check.m : (Nat) → (Int) → (Int × List Int) → (Int × Int) → Option (Int) := hide plexusref03_Check.m0
theorem plexusref03_Check.m_hid : plexusref03_Check.m = plexusref03_Check.m0 := hide_eq _
theorem plexusref03_Check.m_eq (k : Nat) (a0 : Int) (a1 : Int × List Int) (a2 : Int × Int) : plexusref03_Check.m k a0 a1 a2 = (if decide (a2.fst < 0) = true then some (1) else (if decide (a2.fst ≥ a1.fst) = true then some (1) else (if (decide (a1.fst > 4096)) = true then some (1) else (Option.bind (P03.plexusref03_Sides.f k a1.fst a2.fst) fun (r66 : List Bool) => (if ((↑(List.length r66) : Int) != (↑(List.length a1.snd) : Int)) = true then some (6) else (plexusref03_Check.l0 k k  a0 a1 r66 (a2.snd) (0))))))) := by
  rw [plexusref03_Check.m_hid]
  rw [rSides.hid]
  kernel_rfl
noncomputable def plexusref03_Check.sp (k : Nat) : Go.Vx.Spec := plexusref03_Check.s0.runs fun (x : plexusref03_Check.s0.argK.T) => plexusref03_Check.m k x.1 x.2.1 x.2.2
theorem plexusref03_Check.good (k : Nat) : Go.Vx.Good Try.prog 31 (plexusref03_Check.sp k) := Go.Vx.good_runs Try.func31 (show Try.f31.body = some (Go.Vx.bodyOf Try.f31) by kernel_rfl) (by kernel_rfl) (by kernel_rfl) (plexusref03_Check.fns_good k) (by
  intro x r h
  have h : plexusref03_Check.m k x.1 x.2.1 x.2.2 = some r := h
  rw [plexusref03_Check.m_hid] at h
  exact h)
end Go.Proofs.Ytbkjdfemamehcaa.V03
