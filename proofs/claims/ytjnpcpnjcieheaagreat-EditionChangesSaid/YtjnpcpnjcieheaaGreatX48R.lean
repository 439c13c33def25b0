/- Functions as the abstract executor tells them: equations, and contracts; printed by a tool. -/
import Derived.Test.YtjnpcpnjcieheaaGreatX19
import Derived.Test.YtjnpcpnjcieheaaGreatX48A
import Derived.Test.YtjnpcpnjcieheaaGreatVsR
namespace Go.Proofs.YtjnpcpnjcieheaaGreat.V48
open Go Go.Vx Go.Proofs
set_option linter.unusedVariables false
set_option maxRecDepth 100000
noncomputable def plexusref03_Step.s0 : Go.Vx.Spec := ⟨[none, none], (.pair (K.int IntKind.u64) (K.int IntKind.u64)), [.im (K.int IntKind.u64)], .one (none), false, fun _ => none⟩
noncomputable def plexusref03_Step.fns (k : Nat) : Go.Vx.Fns := []
theorem plexusref03_Step.fns_good (k : Nat) : (plexusref03_Step.fns k).good Tryz.prog := Go.Vx.Fns.good_nil
def plexusref03_Step.ann : List (Nat × Ann) := []
noncomputable def plexusref03_Step.lay : Lay := .nil
theorem plexusref03_Step.lay_good : plexusref03_Step.lay.good Tryz.prog := True.intro
noncomputable def plexusref03_Step.pl : Pl := ⟨0, plexusref03_Step.lay, plexusref03_Step.ann, (Go.Vx.bodyOf Tryz.f69)⟩
noncomputable def plexusref03_Step.m0 (k : Nat) (a0 : Int) (a1 : Int) : Option (Int) :=
  execFI Tryz.prog (plexusref03_Step.fns k) plexusref03_Step.lay plexusref03_Step.ann k (plexusref03_Step.s0) 17 Tryz.f69.results.toList (Go.Vx.bodyOf Tryz.f69) (a0, a1)
noncomputable def plexusref03_Step.m : (Nat) → (Int) → (Int) → Option (Int) := hide plexusref03_Step.m0
theorem plexusref03_Step.m_hid : plexusref03_Step.m = plexusref03_Step.m0 := hide_eq _
theorem plexusref03_Step.m_eq (k : Nat) (a0 : Int) (a1 : Int) : plexusref03_Step.m k a0 a1 = some (IntKind.wrap IntKind.u64 (IntKind.wrap IntKind.u64 (↑(BitVec.toNat (BitVec.ofInt (IntKind.bits IntKind.u64) (IntKind.wrap IntKind.u64 (IntKind.wrap IntKind.u64 (↑(BitVec.toNat (BitVec.ofInt (IntKind.bits IntKind.u64) a0 ^^^ BitVec.ofInt (IntKind.bits IntKind.u64) a1)) : Int) * 11400714819323198485)) ^^^ BitVec.ofInt (IntKind.bits IntKind.u64) (shF BinOp.shr IntKind.u64 (IntKind.wrap IntKind.u64 (IntKind.wrap IntKind.u64 (↑(BitVec.toNat (BitVec.ofInt (IntKind.bits IntKind.u64) a0 ^^^ BitVec.ofInt (IntKind.bits IntKind.u64) a1)) : Int) * 11400714819323198485)) 29))) : Int) * 13787848793156543929)) := by
  rw [plexusref03_Step.m_hid]
  kernel_rfl
noncomputable def plexusref03_Step.sp (k : Nat) : Go.Vx.Spec := plexusref03_Step.s0.runs fun (x : plexusref03_Step.s0.argK.T) => plexusref03_Step.m k x.1 x.2
theorem plexusref03_Step.good (k : Nat) : Go.Vx.Good Tryz.prog 69 (plexusref03_Step.sp k) := Go.Vx.good_runsI Tryz.func69 (show Tryz.f69.body = some (Go.Vx.bodyOf Tryz.f69) by kernel_rfl) (by kernel_rfl) (by kernel_rfl) (plexusref03_Step.fns_good k) plexusref03_Step.lay_good (by
  intro x r h
  have h : plexusref03_Step.m k x.1 x.2 = some r := h
  rw [plexusref03_Step.m_hid] at h
  exact h)
noncomputable def plexusref03_Words.s0 : Go.Vx.Spec := ⟨[none], (K.slice (K.int IntKind.i64)), [.im (K.int IntKind.u64)], .one (none), false, fun _ => none⟩
noncomputable def plexusref03_Words.fns (k : Nat) : Go.Vx.Fns := [(69, plexusref03_Step.sp k)]
theorem plexusref03_Words.fns_good (k : Nat) : (plexusref03_Words.fns k).good Tryz.prog := (Go.Vx.Fns.good_cons (plexusref03_Step.good k) Go.Vx.Fns.good_nil)
def plexusref03_Words.ann : List (Nat × Ann) := [(1000003, ⟨rg [(1, 2), (5, 18)], []⟩)]
noncomputable def plexusref03_Words.lay : Lay := .nil
theorem plexusref03_Words.lay_good : plexusref03_Words.lay.good Tryz.prog := True.intro
noncomputable def plexusref03_Words.pl : Pl := ⟨0, plexusref03_Words.lay, plexusref03_Words.ann, (Go.Vx.bodyOf Tryz.f46)⟩
noncomputable def plexusref03_Words.l0 (n_ k : Nat)  (a0 : List Int) (v1 : Int) (v2 : Int) : Option (Int) :=
  loopK n_ (execP Tryz.prog (plexusref03_Words.fns k) k (plC [1, 1, 0, 1, 0, 0] plexusref03_Words.pl)) (nmP (plC [1, 1, 0, 1, 0, 0] plexusref03_Words.pl)) ({ tmps := [AV.sh (K.int IntKind.i64) a0] ++ dz 2 ++ [AV.val (Value.int IntKind.u64 v1), AV.val (Value.int IntKind.i64 v2)] ++ dz 18, ents := [], nx := 0 }) (contP Tryz.prog (plexusref03_Words.fns k) k [1, 1, 0, 1, 0] [] plexusref03_Words.pl (finK Tryz.prog (plexusref03_Words.s0) Tryz.f46.results.toList))
theorem plexusref03_Words.l0_succ (n0 k : Nat)  (a0 : List Int) (v1 : Int) (v2 : Int) : plexusref03_Words.l0 (n0 + 1) k  a0 (v1) (v2) = (if (decide (v2 < (↑(List.length a0) : Int))) = true then (if 0 ≤ v2 then (if v2 < (↑(List.length a0) : Int) then (Option.bind (plexusref03_Step.m k v1 (IntKind.wrap IntKind.u64 (List.getD a0 (Int.toNat v2) (Int.ofNat 0)))) fun (r55 : Int) => (plexusref03_Words.l0 n0 k  a0 (r55) (IntKind.wrap IntKind.i64 (v2 + 1)))) else none) else none) else (Option.bind (plexusref03_Step.m k v1 (IntKind.wrap IntKind.u64 (↑(List.length a0) : Int))) fun (r67 : Int) => some (r67))) := by kernel_rfl
noncomputable def plexusref03_Words.m0 (k : Nat) (a0 : List Int) : Option (Int) :=
  execFI Tryz.prog (plexusref03_Words.fns k) plexusref03_Words.lay plexusref03_Words.ann k (plexusref03_Words.s0) 23 Tryz.f46.results.toList (Go.Vx.bodyOf Tryz.f46) a0
noncomputable def plexusref03_Words.m : (Nat) → (List Int) → Option (Int) := hide plexusref03_Words.m0
theorem plexusref03_Words.m_hid : plexusref03_Words.m = plexusref03_Words.m0 := hide_eq _
theorem plexusref03_Words.m_eq (k : Nat) (a0 : List Int) : plexusref03_Words.m k a0 = (plexusref03_Words.l0 k k  a0 (123610861172083) (0)) := by
  rw [plexusref03_Words.m_hid]
  kernel_rfl
noncomputable def plexusref03_Words.sp (k : Nat) : Go.Vx.Spec := plexusref03_Words.s0.runs fun (x : plexusref03_Words.s0.argK.T) => plexusref03_Words.m k x
theorem plexusref03_Words.good (k : Nat) : Go.Vx.Good Tryz.prog 46 (plexusref03_Words.sp k) := Go.Vx.good_runsI Tryz.func46 (show Tryz.f46.body = some (Go.Vx.bodyOf Tryz.f46) by kernel_rfl) (by kernel_rfl) (by kernel_rfl) (plexusref03_Words.fns_good k) plexusref03_Words.lay_good (by
  intro x r h
  have h : plexusref03_Words.m k x = some r := h
  rw [plexusref03_Words.m_hid] at h
  exact h)
noncomputable def plexusref48_Digest.s0 : Go.Vx.Spec := ⟨[some 4], (K.pair (K.int IntKind.i64) (K.pair (K.int IntKind.u64) (K.pair (K.int IntKind.u64) (K.int IntKind.u64)))), [.im (K.int IntKind.u64)], .one (none), false, fun _ => none⟩
noncomputable def plexusref48_Digest.fns (k : Nat) : Go.Vx.Fns := [(46, plexusref03_Words.sp k)]
theorem plexusref48_Digest.fns_good (k : Nat) : (plexusref48_Digest.fns k).good Tryz.prog := (Go.Vx.Fns.good_cons (plexusref03_Words.good k) Go.Vx.Fns.good_nil)
def plexusref48_Digest.ann : List (Nat × Ann) := []
noncomputable def plexusref48_Digest.lay : Lay := .nil
theorem plexusref48_Digest.lay_good : plexusref48_Digest.lay.good Tryz.prog := True.intro
noncomputable def plexusref48_Digest.pl : Pl := ⟨0, plexusref48_Digest.lay, plexusref48_Digest.ann, (Go.Vx.bodyOf Tryz.f21)⟩
noncomputable def plexusref48_Digest.m0 (k : Nat) (a0 : Int × Int × Int × Int) : Option (Int) :=
  execFI Tryz.prog (plexusref48_Digest.fns k) plexusref48_Digest.lay plexusref48_Digest.ann k (plexusref48_Digest.s0) 16 Tryz.f21.results.toList (Go.Vx.bodyOf Tryz.f21) a0
noncomputable def plexusref48_Digest.m : (Nat) → (Int × Int × Int × Int) → Option (Int) := hide plexusref48_Digest.m0
theorem plexusref48_Digest.m_hid : plexusref48_Digest.m = plexusref48_Digest.m0 := hide_eq _
theorem plexusref48_Digest.m_eq (k : Nat) (a0 : Int × Int × Int × Int) : plexusref48_Digest.m k a0 = (Option.bind (plexusref03_Words.m k [a0.fst, IntKind.wrap IntKind.i64 a0.snd.fst, IntKind.wrap IntKind.i64 a0.snd.snd.fst, IntKind.wrap IntKind.i64 a0.snd.snd.snd]) fun (r15 : Int) => some (r15)) := by
  rw [plexusref48_Digest.m_hid]
  kernel_rfl
noncomputable def plexusref48_Digest.sp (k : Nat) : Go.Vx.Spec := plexusref48_Digest.s0.runs fun (x : plexusref48_Digest.s0.argK.T) => plexusref48_Digest.m k x
theorem plexusref48_Digest.good (k : Nat) : Go.Vx.Good Tryz.prog 21 (plexusref48_Digest.sp k) := Go.Vx.good_runsI Tryz.func21 (show Tryz.f21.body = some (Go.Vx.bodyOf Tryz.f21) by kernel_rfl) (by kernel_rfl) (by kernel_rfl) (plexusref48_Digest.fns_good k) plexusref48_Digest.lay_good (by
  intro x r h
  have h : plexusref48_Digest.m k x = some r := h
  rw [plexusref48_Digest.m_hid] at h
  exact h)
noncomputable def plexusref03_Tag.s0 : Go.Vx.Spec := ⟨[none, none], (.pair (K.int IntKind.u64) (K.slice (K.int IntKind.i64))), [.im (K.int IntKind.u64)], .one (none), false, fun _ => none⟩
noncomputable def plexusref03_Tag.fns (k : Nat) : Go.Vx.Fns := [(46, plexusref03_Words.sp k), (69, plexusref03_Step.sp k)]
theorem plexusref03_Tag.fns_good (k : Nat) : (plexusref03_Tag.fns k).good Tryz.prog := (Go.Vx.Fns.good_cons (plexusref03_Words.good k) (Go.Vx.Fns.good_cons (plexusref03_Step.good k) Go.Vx.Fns.good_nil))
def plexusref03_Tag.ann : List (Nat × Ann) := []
noncomputable def plexusref03_Tag.lay : Lay := .nil
theorem plexusref03_Tag.lay_good : plexusref03_Tag.lay.good Tryz.prog := True.intro
noncomputable def plexusref03_Tag.pl : Pl := ⟨0, plexusref03_Tag.lay, plexusref03_Tag.ann, (Go.Vx.bodyOf Tryz.f71)⟩
noncomputable def plexusref03_Tag.m0 (k : Nat) (a0 : Int) (a1 : List Int) : Option (Int) :=
  execFI Tryz.prog (plexusref03_Tag.fns k) plexusref03_Tag.lay plexusref03_Tag.ann k (plexusref03_Tag.s0) 9 Tryz.f71.results.toList (Go.Vx.bodyOf Tryz.f71) (a0, a1)
noncomputable def plexusref03_Tag.m : (Nat) → (Int) → (List Int) → Option (Int) := hide plexusref03_Tag.m0
theorem plexusref03_Tag.m_hid : plexusref03_Tag.m = plexusref03_Tag.m0 := hide_eq _
theorem plexusref03_Tag.m_eq (k : Nat) (a0 : Int) (a1 : List Int) : plexusref03_Tag.m k a0 a1 = (Option.bind (plexusref03_Words.m k a1) fun (r4 : Int) => (Option.bind (plexusref03_Step.m k a0 r4) fun (r6 : Int) => some (r6))) := by
  rw [plexusref03_Tag.m_hid]
  kernel_rfl
noncomputable def plexusref03_Tag.sp (k : Nat) : Go.Vx.Spec := plexusref03_Tag.s0.runs fun (x : plexusref03_Tag.s0.argK.T) => plexusref03_Tag.m k x.1 x.2
theorem plexusref03_Tag.good (k : Nat) : Go.Vx.Good Tryz.prog 71 (plexusref03_Tag.sp k) := Go.Vx.good_runsI Tryz.func71 (show Tryz.f71.body = some (Go.Vx.bodyOf Tryz.f71) by kernel_rfl) (by kernel_rfl) (by kernel_rfl) (plexusref03_Tag.fns_good k) plexusref03_Tag.lay_good (by
  intro x r h
  have h : plexusref03_Tag.m k x.1 x.2 = some r := h
  rw [plexusref03_Tag.m_hid] at h
  exact h)
noncomputable def plexusref48_Tag.s0 : Go.Vx.Spec := ⟨[none, some 4], (.pair (K.int IntKind.u64) (K.pair (K.int IntKind.i64) (K.pair (K.int IntKind.u64) (K.pair (K.int IntKind.u64) (K.int IntKind.u64))))), [.im (K.int IntKind.u64)], .one (none), false, fun _ => none⟩
noncomputable def plexusref48_Tag.fns (k : Nat) : Go.Vx.Fns := [(71, plexusref03_Tag.sp k)]
theorem plexusref48_Tag.fns_good (k : Nat) : (plexusref48_Tag.fns k).good Tryz.prog := (Go.Vx.Fns.good_cons (plexusref03_Tag.good k) Go.Vx.Fns.good_nil)
def plexusref48_Tag.ann : List (Nat × Ann) := []
noncomputable def plexusref48_Tag.lay : Lay := .nil
theorem plexusref48_Tag.lay_good : plexusref48_Tag.lay.good Tryz.prog := True.intro
noncomputable def plexusref48_Tag.pl : Pl := ⟨0, plexusref48_Tag.lay, plexusref48_Tag.ann, (Go.Vx.bodyOf Tryz.f50)⟩
noncomputable def plexusref48_Tag.m0 (k : Nat) (a0 : Int) (a1 : Int × Int × Int × Int) : Option (Int) :=
  execFI Tryz.prog (plexusref48_Tag.fns k) plexusref48_Tag.lay plexusref48_Tag.ann k (plexusref48_Tag.s0) 16 Tryz.f50.results.toList (Go.Vx.bodyOf Tryz.f50) (a0, a1)
noncomputable def plexusref48_Tag.m : (Nat) → (Int) → (Int × Int × Int × Int) → Option (Int) := hide plexusref48_Tag.m0
theorem plexusref48_Tag.m_hid : plexusref48_Tag.m = plexusref48_Tag.m0 := hide_eq _
theorem plexusref48_Tag.m_eq (k : Nat) (a0 : Int) (a1 : Int × Int × Int × Int) : plexusref48_Tag.m k a0 a1 = (Option.bind (plexusref03_Tag.m k a0 [a1.fst, IntKind.wrap IntKind.i64 a1.snd.fst, IntKind.wrap IntKind.i64 a1.snd.snd.fst]) fun (r13 : Int) => some (r13)) := by
  rw [plexusref48_Tag.m_hid]
  kernel_rfl
noncomputable def plexusref48_Tag.sp (k : Nat) : Go.Vx.Spec := plexusref48_Tag.s0.runs fun (x : plexusref48_Tag.s0.argK.T) => plexusref48_Tag.m k x.1 x.2
theorem plexusref48_Tag.good (k : Nat) : Go.Vx.Good Tryz.prog 50 (plexusref48_Tag.sp k) := Go.Vx.good_runsI Tryz.func50 (show Tryz.f50.body = some (Go.Vx.bodyOf Tryz.f50) by kernel_rfl) (by kernel_rfl) (by kernel_rfl) (plexusref48_Tag.fns_good k) plexusref48_Tag.lay_good (by
  intro x r h
  have h : plexusref48_Tag.m k x.1 x.2 = some r := h
  rw [plexusref48_Tag.m_hid] at h
  exact h)
noncomputable def plexusref48_Check.s0 : Go.Vx.Spec := ⟨[none, none], (.pair (K.int IntKind.u64) (K.slice (K.pair (K.int IntKind.i64) (K.pair (K.int IntKind.u64) (K.pair (K.int IntKind.u64) (K.int IntKind.u64)))))), [.im (K.int IntKind.i64)], .one (none), false, fun _ => none⟩
noncomputable def plexusref48_Check.fns (k : Nat) : Go.Vx.Fns := [(21, plexusref48_Digest.sp k), (50, plexusref48_Tag.sp k)]
theorem plexusref48_Check.fns_good (k : Nat) : (plexusref48_Check.fns k).good Tryz.prog := (Go.Vx.Fns.good_cons (plexusref48_Digest.good k) (Go.Vx.Fns.good_cons (plexusref48_Tag.good k) Go.Vx.Fns.good_nil))
def plexusref48_Check.ann : List (Nat × Ann) := [(2000009, ⟨rg [(2, 3), (7, 48)], []⟩), (1000004, ⟨rg [(2, 3), (6, 49)], []⟩)]
noncomputable def plexusref48_Check.lay : Lay := .nil
theorem plexusref48_Check.lay_good : plexusref48_Check.lay.good Tryz.prog := True.intro
noncomputable def plexusref48_Check.pl : Pl := ⟨0, plexusref48_Check.lay, plexusref48_Check.ann, (Go.Vx.bodyOf Tryz.f25)⟩
noncomputable def plexusref48_Check.j0 (k : Nat) (n0 : Nat) (a0 : Int) (a1 : List (Int × Int × Int × Int)) (v2 : Int) (v3 : Int) : Option (Int) :=
  joinK (fun s_ => execP Tryz.prog (plexusref48_Check.fns k) k (plC [1, 1, 0, 1, 0, 0, 1, 0, 0, 1, 1] plexusref48_Check.pl) s_ (contP Tryz.prog (plexusref48_Check.fns k) k [1, 1, 0, 1, 0, 0, 1, 0, 0, 1, 1] [n0] plexusref48_Check.pl (finK Tryz.prog (plexusref48_Check.s0) Tryz.f25.results.toList))) ({ tmps := [AV.val (Value.int IntKind.u64 a0), AV.sh (K.pair (K.int IntKind.i64) (K.pair (K.int IntKind.u64) (K.pair (K.int IntKind.u64) (K.int IntKind.u64)))) a1] ++ dz 3 ++ [AV.val (Value.int IntKind.i64 v2), AV.val (Value.int IntKind.u64 v3)] ++ dz 48, ents := [], nx := 0 })
noncomputable def plexusref48_Check.l0 (n_ k : Nat)  (a0 : Int) (a1 : List (Int × Int × Int × Int)) (v2 : Int) : Option (Int) :=
  loopK n_ (execP Tryz.prog (plexusref48_Check.fns k) k (plC [1, 1, 0, 1, 0, 0] plexusref48_Check.pl)) (nmP (plC [1, 1, 0, 1, 0, 0] plexusref48_Check.pl)) ({ tmps := [AV.val (Value.int IntKind.u64 a0), AV.sh (K.pair (K.int IntKind.i64) (K.pair (K.int IntKind.u64) (K.pair (K.int IntKind.u64) (K.int IntKind.u64)))) a1] ++ dz 3 ++ [AV.val (Value.int IntKind.i64 v2)] ++ dz 49, ents := [], nx := 0 }) (contP Tryz.prog (plexusref48_Check.fns k) k [1, 1, 0, 1, 0] [] plexusref48_Check.pl (finK Tryz.prog (plexusref48_Check.s0) Tryz.f25.results.toList))
theorem plexusref48_Check.j0_eq (k : Nat) (n0 : Nat) (a0 : Int) (a1 : List (Int × Int × Int × Int)) (v2 : Int) (v3 : Int) : plexusref48_Check.j0 k n0 a0 a1 v2 (v3) = (if 0 ≤ v2 then (if v2 < (↑(List.length a1) : Int) then (if ((List.getD a1 (Int.toNat v2) (Int.ofNat 0, Int.ofNat 0, Int.ofNat 0, Int.ofNat 0)).fst != IntKind.wrap IntKind.i64 (v2 + 1)) = true then some (480) else (if 0 ≤ v2 then (if v2 < (↑(List.length a1) : Int) then (if ((List.getD a1 (Int.toNat v2) (Int.ofNat 0, Int.ofNat 0, Int.ofNat 0, Int.ofNat 0)).snd.fst != v3) = true then some (480) else (if 0 ≤ v2 then (if v2 < (↑(List.length a1) : Int) then (if 0 ≤ v2 then (if v2 < (↑(List.length a1) : Int) then (Option.bind (plexusref48_Tag.m k a0 ((List.getD a1 (Int.toNat v2) (Int.ofNat 0, Int.ofNat 0, Int.ofNat 0, Int.ofNat 0)).fst, (List.getD a1 (Int.toNat v2) (Int.ofNat 0, Int.ofNat 0, Int.ofNat 0, Int.ofNat 0)).snd.fst, (List.getD a1 (Int.toNat v2) (Int.ofNat 0, Int.ofNat 0, Int.ofNat 0, Int.ofNat 0)).snd.snd.fst, (List.getD a1 (Int.toNat v2) (Int.ofNat 0, Int.ofNat 0, Int.ofNat 0, Int.ofNat 0)).snd.snd.snd)) fun (r239 : Int) => (if ((List.getD a1 (Int.toNat v2) (Int.ofNat 0, Int.ofNat 0, Int.ofNat 0, Int.ofNat 0)).snd.snd.snd != r239) = true then some (480) else (plexusref48_Check.l0 n0 k  a0 a1 (IntKind.wrap IntKind.i64 (v2 + 1))))) else none) else none) else none) else none)) else none) else none)) else none) else none) := by
  unfold plexusref48_Check.j0
  rw [joinK_eq]
  kernel_rfl
theorem plexusref48_Check.l0_succ (n0 k : Nat)  (a0 : Int) (a1 : List (Int × Int × Int × Int)) (v2 : Int) : plexusref48_Check.l0 (n0 + 1) k  a0 a1 (v2) = (if (decide (v2 < (↑(List.length a1) : Int))) = true then (if (decide (v2 > 0)) = true then (if 0 ≤ IntKind.wrap IntKind.i64 (v2 - 1) then (if IntKind.wrap IntKind.i64 (v2 - 1) < (↑(List.length a1) : Int) then (Option.bind (plexusref48_Digest.m k ((List.getD a1 (Int.toNat (IntKind.wrap IntKind.i64 (v2 - 1))) (Int.ofNat 0, Int.ofNat 0, Int.ofNat 0, Int.ofNat 0)).fst, (List.getD a1 (Int.toNat (IntKind.wrap IntKind.i64 (v2 - 1))) (Int.ofNat 0, Int.ofNat 0, Int.ofNat 0, Int.ofNat 0)).snd.fst, (List.getD a1 (Int.toNat (IntKind.wrap IntKind.i64 (v2 - 1))) (Int.ofNat 0, Int.ofNat 0, Int.ofNat 0, Int.ofNat 0)).snd.snd.fst, (List.getD a1 (Int.toNat (IntKind.wrap IntKind.i64 (v2 - 1))) (Int.ofNat 0, Int.ofNat 0, Int.ofNat 0, Int.ofNat 0)).snd.snd.snd)) fun (r266 : Int) => (plexusref48_Check.j0 k n0 a0 a1 v2 (r266))) else none) else none) else (plexusref48_Check.j0 k n0 a0 a1 v2 (0))) else some (0)) := by kernel_rfl
noncomputable def plexusref48_Check.m0 (k : Nat) (a0 : Int) (a1 : List (Int × Int × Int × Int)) : Option (Int) :=
  execFI Tryz.prog (plexusref48_Check.fns k) plexusref48_Check.lay plexusref48_Check.ann k (plexusref48_Check.s0) 55 Tryz.f25.results.toList (Go.Vx.bodyOf Tryz.f25) (a0, a1)
noncomputable def plexusref48_Check.m : (Nat) → (Int) → (List (Int × Int × Int × Int)) → Option (Int) := hide plexusref48_Check.m0
theorem plexusref48_Check.m_hid : plexusref48_Check.m = plexusref48_Check.m0 := hide_eq _
theorem plexusref48_Check.m_eq (k : Nat) (a0 : Int) (a1 : List (Int × Int × Int × Int)) : plexusref48_Check.m k a0 a1 = (if (decide ((↑(List.length a1) : Int) > 60)) = true then some (480) else (plexusref48_Check.l0 k k  a0 a1 (0))) := by
  rw [plexusref48_Check.m_hid]
  kernel_rfl
noncomputable def plexusref48_Check.sp (k : Nat) : Go.Vx.Spec := plexusref48_Check.s0.runs fun (x : plexusref48_Check.s0.argK.T) => plexusref48_Check.m k x.1 x.2
theorem plexusref48_Check.good (k : Nat) : Go.Vx.Good Tryz.prog 25 (plexusref48_Check.sp k) := Go.Vx.good_runsI Tryz.func25 (show Tryz.f25.body = some (Go.Vx.bodyOf Tryz.f25) by kernel_rfl) (by kernel_rfl) (by kernel_rfl) (plexusref48_Check.fns_good k) plexusref48_Check.lay_good (by
  intro x r h
  have h : plexusref48_Check.m k x.1 x.2 = some r := h
  rw [plexusref48_Check.m_hid] at h
  exact h)
noncomputable def plexusref21_Right.s0 : Go.Vx.Spec := ⟨[some 3], (K.pair (K.int IntKind.i64) (K.pair (K.int IntKind.i64) (K.slice (K.pair (K.int IntKind.i64) (K.pair (K.int IntKind.i64) (K.slice (K.int IntKind.u64))))))), [.im (K.int IntKind.i64)], .one (none), false, fun _ => none⟩
noncomputable def plexusref21_Right.fns (k : Nat) : Go.Vx.Fns := [(62, plexusref21_FormOf.sp k), (34, plexusref06_Same.sp k)]
theorem plexusref21_Right.fns_good (k : Nat) : (plexusref21_Right.fns k).good Tryz.prog := (Go.Vx.Fns.good_cons (plexusref21_FormOf.good k) (Go.Vx.Fns.good_cons (plexusref06_Same.good k) Go.Vx.Fns.good_nil))
def plexusref21_Right.ann : List (Nat × Ann) := [(1000010, ⟨rg [(0, 1), (2, 1), (4, 1), (6, 113)], []⟩), (2000009, ⟨rg [(0, 1), (2, 1), (4, 115)], []⟩), (1000004, ⟨rg [(0, 1), (2, 1), (4, 115)], []⟩)]
noncomputable def plexusref21_Right.lay : Lay := .nil
theorem plexusref21_Right.lay_good : plexusref21_Right.lay.good Tryz.prog := True.intro
noncomputable def plexusref21_Right.pl : Pl := ⟨0, plexusref21_Right.lay, plexusref21_Right.ann, (Go.Vx.bodyOf Tryz.f51)⟩
noncomputable def plexusref21_Right.l1 (n_ k : Nat) (n0 : Nat) (a0 : Int × Int × List (Int × Int × List Int)) (v0 : Int) (v1 : Int) : Option (Int) :=
  loopK n_ (execP Tryz.prog (plexusref21_Right.fns k) k (plC [1, 1, 0, 1, 0, 0, 1, 0, 0, 1, 1, 1, 0, 0] plexusref21_Right.pl)) (nmP (plC [1, 1, 0, 1, 0, 0, 1, 0, 0, 1, 1, 1, 0, 0] plexusref21_Right.pl)) ({ tmps := [AV.dead, AV.ptr 0 0, AV.dead, AV.val (Value.int IntKind.i64 v0), AV.dead, AV.val (Value.int IntKind.i64 v1)] ++ dz 113, ents := [(0, Ent.box 34 [AV.val (Value.int IntKind.i64 a0.fst), AV.val (Value.int IntKind.i64 a0.snd.fst), AV.sh (K.pair (K.int IntKind.i64) (K.pair (K.int IntKind.i64) (K.slice (K.int IntKind.u64)))) a0.snd.snd])], nx := 1 }) (contP Tryz.prog (plexusref21_Right.fns k) k [1, 1, 0, 1, 0, 0, 1, 0, 0, 1, 1, 1, 0] [n0] plexusref21_Right.pl (finK Tryz.prog (plexusref21_Right.s0) Tryz.f51.results.toList))
noncomputable def plexusref21_Right.j0 (k : Nat) (n0 : Nat) (a0 : Int × Int × List (Int × Int × List Int)) (v0 : Int)  : Option (Int) :=
  joinK (fun s_ => execP Tryz.prog (plexusref21_Right.fns k) k (plC [1, 1, 0, 1, 0, 0, 1, 0, 0, 1, 1] plexusref21_Right.pl) s_ (contP Tryz.prog (plexusref21_Right.fns k) k [1, 1, 0, 1, 0, 0, 1, 0, 0, 1, 1] [n0] plexusref21_Right.pl (finK Tryz.prog (plexusref21_Right.s0) Tryz.f51.results.toList))) ({ tmps := [AV.dead, AV.ptr 0 0, AV.dead, AV.val (Value.int IntKind.i64 v0)] ++ dz 115, ents := [(0, Ent.box 34 [AV.val (Value.int IntKind.i64 a0.fst), AV.val (Value.int IntKind.i64 a0.snd.fst), AV.sh (K.pair (K.int IntKind.i64) (K.pair (K.int IntKind.i64) (K.slice (K.int IntKind.u64)))) a0.snd.snd])], nx := 1 })
noncomputable def plexusref21_Right.l0 (n_ k : Nat)  (a0 : Int × Int × List (Int × Int × List Int)) (v0 : Int) : Option (Int) :=
  loopK n_ (execP Tryz.prog (plexusref21_Right.fns k) k (plC [1, 1, 0, 1, 0, 0] plexusref21_Right.pl)) (nmP (plC [1, 1, 0, 1, 0, 0] plexusref21_Right.pl)) ({ tmps := [AV.dead, AV.ptr 0 0, AV.dead, AV.val (Value.int IntKind.i64 v0)] ++ dz 115, ents := [(0, Ent.box 34 [AV.val (Value.int IntKind.i64 a0.fst), AV.val (Value.int IntKind.i64 a0.snd.fst), AV.sh (K.pair (K.int IntKind.i64) (K.pair (K.int IntKind.i64) (K.slice (K.int IntKind.u64)))) a0.snd.snd])], nx := 1 }) (contP Tryz.prog (plexusref21_Right.fns k) k [1, 1, 0, 1, 0] [] plexusref21_Right.pl (finK Tryz.prog (plexusref21_Right.s0) Tryz.f51.results.toList))
theorem plexusref21_Right.l1_succ (n1 k : Nat) (n0 : Nat) (a0 : Int × Int × List (Int × Int × List Int)) (v0 : Int) (v1 : Int) : plexusref21_Right.l1 (n1 + 1) k n0 a0 v0 (v1) = (if (decide (v1 < v0)) = true then (if 0 ≤ v0 then (if v0 < (↑(List.length a0.snd.snd) : Int) then (if 0 ≤ v1 then (if v1 < (↑(List.length a0.snd.snd) : Int) then (Option.bind (plexusref06_Same.m k ((List.getD a0.snd.snd (Int.toNat v0) (Int.ofNat 0, Int.ofNat 0, [])).snd.fst, (List.getD a0.snd.snd (Int.toNat v0) (Int.ofNat 0, Int.ofNat 0, [])).snd.snd) ((List.getD a0.snd.snd (Int.toNat v1) (Int.ofNat 0, Int.ofNat 0, [])).snd.fst, (List.getD a0.snd.snd (Int.toNat v1) (Int.ofNat 0, Int.ofNat 0, [])).snd.snd)) fun (r976 : Bool) => (if (r976) = true then some (210) else (plexusref21_Right.l1 n1 k n0 a0 v0 (IntKind.wrap IntKind.i64 (v1 + 1))))) else none) else none) else none) else none) else (plexusref21_Right.l0 n0 k  a0 (IntKind.wrap IntKind.i64 (v0 + 1)))) := by kernel_rfl
theorem plexusref21_Right.j0_eq (k : Nat) (n0 : Nat) (a0 : Int × Int × List (Int × Int × List Int)) (v0 : Int)  : plexusref21_Right.j0 k n0 a0 v0  = (plexusref21_Right.l1 k k n0 a0 v0 (0)) := by
  unfold plexusref21_Right.j0
  rw [joinK_eq]
  kernel_rfl
theorem plexusref21_Right.l0_succ (n0 k : Nat)  (a0 : Int × Int × List (Int × Int × List Int)) (v0 : Int) : plexusref21_Right.l0 (n0 + 1) k  a0 (v0) = (if (decide (v0 < (↑(List.length a0.snd.snd) : Int))) = true then (if 0 ≤ v0 then (if v0 < (↑(List.length a0.snd.snd) : Int) then (Option.bind (plexusref21_FormOf.m k a0.fst ((List.getD a0.snd.snd (Int.toNat v0) (Int.ofNat 0, Int.ofNat 0, [])).snd.fst, (List.getD a0.snd.snd (Int.toNat v0) (Int.ofNat 0, Int.ofNat 0, [])).snd.snd)) fun (r751 : (Int × List Int) × Int) => (if 0 ≤ v0 then (if v0 < (↑(List.length a0.snd.snd) : Int) then (if (decide ((List.getD a0.snd.snd (Int.toNat v0) (Int.ofNat 0, Int.ofNat 0, [])).fst < 1)) = true then some (210) else (if 0 ≤ v0 then (if v0 < (↑(List.length a0.snd.snd) : Int) then (if (decide ((List.getD a0.snd.snd (Int.toNat v0) (Int.ofNat 0, Int.ofNat 0, [])).fst ≥ a0.snd.fst)) = true then some (210) else (if (decide (v0 > 0)) = true then (if 0 ≤ IntKind.wrap IntKind.i64 (v0 - 1) then (if IntKind.wrap IntKind.i64 (v0 - 1) < (↑(List.length a0.snd.snd) : Int) then (if 0 ≤ v0 then (if v0 < (↑(List.length a0.snd.snd) : Int) then (if (decide ((List.getD a0.snd.snd (Int.toNat (IntKind.wrap IntKind.i64 (v0 - 1))) (Int.ofNat 0, Int.ofNat 0, [])).fst ≥ (List.getD a0.snd.snd (Int.toNat v0) (Int.ofNat 0, Int.ofNat 0, [])).fst)) = true then some (210) else (if (r751.snd != 0) = true then some (210) else (if 0 ≤ v0 then (if v0 < (↑(List.length a0.snd.snd) : Int) then (Option.bind (plexusref06_Same.m k (r751.fst.fst, r751.fst.snd) ((List.getD a0.snd.snd (Int.toNat v0) (Int.ofNat 0, Int.ofNat 0, [])).snd.fst, (List.getD a0.snd.snd (Int.toNat v0) (Int.ofNat 0, Int.ofNat 0, [])).snd.snd)) fun (r1090 : Bool) => (if (!r1090) = true then some (210) else (plexusref21_Right.j0 k n0 a0 v0 ))) else none) else none))) else none) else none) else none) else none) else (if (r751.snd != 0) = true then some (210) else (if 0 ≤ v0 then (if v0 < (↑(List.length a0.snd.snd) : Int) then (Option.bind (plexusref06_Same.m k (r751.fst.fst, r751.fst.snd) ((List.getD a0.snd.snd (Int.toNat v0) (Int.ofNat 0, Int.ofNat 0, [])).snd.fst, (List.getD a0.snd.snd (Int.toNat v0) (Int.ofNat 0, Int.ofNat 0, [])).snd.snd)) fun (r1128 : Bool) => (if (!r1128) = true then some (210) else (plexusref21_Right.j0 k n0 a0 v0 ))) else none) else none)))) else none) else none)) else none) else none)) else none) else none) else some (0)) := by kernel_rfl
noncomputable def plexusref21_Right.m0 (k : Nat) (a0 : Int × Int × List (Int × Int × List Int)) : Option (Int) :=
  execFI Tryz.prog (plexusref21_Right.fns k) plexusref21_Right.lay plexusref21_Right.ann k (plexusref21_Right.s0) 119 Tryz.f51.results.toList (Go.Vx.bodyOf Tryz.f51) a0
noncomputable def plexusref21_Right.m : (Nat) → (Int × Int × List (Int × Int × List Int)) → Option (Int) := hide plexusref21_Right.m0
theorem plexusref21_Right.m_hid : plexusref21_Right.m = plexusref21_Right.m0 := hide_eq _
theorem plexusref21_Right.m_eq (k : Nat) (a0 : Int × Int × List (Int × Int × List Int)) : plexusref21_Right.m k a0 = (if decide (a0.fst < 1) = true then some (210) else (if decide (a0.fst > 2) = true then some (210) else (if decide (a0.snd.fst < 1) = true then some (210) else (if decide (a0.snd.fst > 1000000) = true then some (210) else (if (decide ((↑(List.length a0.snd.snd) : Int) > 100)) = true then some (210) else (plexusref21_Right.l0 k k  a0 (0))))))) := by
  rw [plexusref21_Right.m_hid]
  kernel_rfl
noncomputable def plexusref21_Right.sp (k : Nat) : Go.Vx.Spec := plexusref21_Right.s0.runs fun (x : plexusref21_Right.s0.argK.T) => plexusref21_Right.m k x
theorem plexusref21_Right.good (k : Nat) : Go.Vx.Good Tryz.prog 51 (plexusref21_Right.sp k) := Go.Vx.good_runsI Tryz.func51 (show Tryz.f51.body = some (Go.Vx.bodyOf Tryz.f51) by kernel_rfl) (by kernel_rfl) (by kernel_rfl) (plexusref21_Right.fns_good k) plexusref21_Right.lay_good (by
  intro x r h
  have h : plexusref21_Right.m k x = some r := h
  rw [plexusref21_Right.m_hid] at h
  exact h)
noncomputable def plexusref48_Leaf.s0 : Go.Vx.Spec := ⟨[some 3], (K.pair (K.int IntKind.i64) (K.pair (K.int IntKind.i64) (K.slice (K.int IntKind.u64)))), [.im (K.int IntKind.u64)], .one (none), false, fun _ => none⟩
noncomputable def plexusref48_Leaf.fns (k : Nat) : Go.Vx.Fns := [(46, plexusref03_Words.sp k)]
theorem plexusref48_Leaf.fns_good (k : Nat) : (plexusref48_Leaf.fns k).good Tryz.prog := (Go.Vx.Fns.good_cons (plexusref03_Words.good k) Go.Vx.Fns.good_nil)
def plexusref48_Leaf.ann : List (Nat × Ann) := [(1000003, ⟨rg [(0, 1), (2, 1), (5, 26)], []⟩)]
noncomputable def plexusref48_Leaf.lay : Lay := .nil
theorem plexusref48_Leaf.lay_good : plexusref48_Leaf.lay.good Tryz.prog := True.intro
noncomputable def plexusref48_Leaf.pl : Pl := ⟨0, plexusref48_Leaf.lay, plexusref48_Leaf.ann, (Go.Vx.bodyOf Tryz.f23)⟩
noncomputable def plexusref48_Leaf.l0 (n_ k : Nat)  (a0 : Int × Int × List Int) (v0 : Int) (v4 : List Int) : Option (Int) :=
  loopK n_ (execP Tryz.prog (plexusref48_Leaf.fns k) k (plC [1, 1, 0, 1, 0, 0] plexusref48_Leaf.pl)) (nmP (plC [1, 1, 0, 1, 0, 0] plexusref48_Leaf.pl)) ({ tmps := [AV.dead, AV.ptr 0 0, AV.dead, AV.own 1, AV.val (Value.int IntKind.i64 v0)] ++ dz 26, ents := [(0, Ent.box 61 [AV.val (Value.int IntKind.i64 a0.fst), AV.val (Value.int IntKind.i64 a0.snd.fst), AV.sh (K.int IntKind.u64) a0.snd.snd]), (1, Ent.row { k := K.int IntKind.i64, T := 3, fz := false, xs := v4 })], nx := 2 }) (contP Tryz.prog (plexusref48_Leaf.fns k) k [1, 1, 0, 1, 0] [] plexusref48_Leaf.pl (finK Tryz.prog (plexusref48_Leaf.s0) Tryz.f23.results.toList))
theorem plexusref48_Leaf.l0_succ (n0 k : Nat)  (a0 : Int × Int × List Int) (v0 : Int) (v4 : List Int) : plexusref48_Leaf.l0 (n0 + 1) k  a0 (v0) (v4) = (if (decide (v0 < (↑(List.length a0.snd.snd) : Int))) = true then (if 0 ≤ v0 then (if v0 < (↑(List.length a0.snd.snd) : Int) then (if (List.length v4 + List.length [IntKind.wrap IntKind.i64 (List.getD a0.snd.snd (Int.toNat v0) (Int.ofNat 0))]) * 8 ≤ 140737488355328 then (plexusref48_Leaf.l0 n0 k  a0 (IntKind.wrap IntKind.i64 (v0 + 1)) (v4 ++ [IntKind.wrap IntKind.i64 (List.getD a0.snd.snd (Int.toNat v0) (Int.ofNat 0))])) else none) else none) else none) else (Option.bind (plexusref03_Words.m k v4) fun (r89 : Int) => some (r89))) := by kernel_rfl
noncomputable def plexusref48_Leaf.m0 (k : Nat) (a0 : Int × Int × List Int) : Option (Int) :=
  execFI Tryz.prog (plexusref48_Leaf.fns k) plexusref48_Leaf.lay plexusref48_Leaf.ann k (plexusref48_Leaf.s0) 31 Tryz.f23.results.toList (Go.Vx.bodyOf Tryz.f23) a0
noncomputable def plexusref48_Leaf.m : (Nat) → (Int × Int × List Int) → Option (Int) := hide plexusref48_Leaf.m0
theorem plexusref48_Leaf.m_hid : plexusref48_Leaf.m = plexusref48_Leaf.m0 := hide_eq _
theorem plexusref48_Leaf.m_eq (k : Nat) (a0 : Int × Int × List Int) : plexusref48_Leaf.m k a0 = (plexusref48_Leaf.l0 k k  a0 (0) ([a0.fst, a0.snd.fst])) := by
  rw [plexusref48_Leaf.m_hid]
  kernel_rfl
noncomputable def plexusref48_Leaf.sp (k : Nat) : Go.Vx.Spec := plexusref48_Leaf.s0.runs fun (x : plexusref48_Leaf.s0.argK.T) => plexusref48_Leaf.m k x
theorem plexusref48_Leaf.good (k : Nat) : Go.Vx.Good Tryz.prog 23 (plexusref48_Leaf.sp k) := Go.Vx.good_runsI Tryz.func23 (show Tryz.f23.body = some (Go.Vx.bodyOf Tryz.f23) by kernel_rfl) (by kernel_rfl) (by kernel_rfl) (plexusref48_Leaf.fns_good k) plexusref48_Leaf.lay_good (by
  intro x r h
  have h : plexusref48_Leaf.m k x = some r := h
  rw [plexusref48_Leaf.m_hid] at h
  exact h)
noncomputable def plexusref48_Leaves.s0 : Go.Vx.Spec := ⟨[some 3], (K.pair (K.int IntKind.i64) (K.pair (K.int IntKind.i64) (K.slice (K.pair (K.int IntKind.i64) (K.pair (K.int IntKind.i64) (K.slice (K.int IntKind.u64))))))), [.own ((K.int IntKind.u64)) 22], .one (none), false, fun _ => none⟩
noncomputable def plexusref48_Leaves.fns (k : Nat) : Go.Vx.Fns := [(23, plexusref48_Leaf.sp k)]
theorem plexusref48_Leaves.fns_good (k : Nat) : (plexusref48_Leaves.fns k).good Tryz.prog := (Go.Vx.Fns.good_cons (plexusref48_Leaf.good k) Go.Vx.Fns.good_nil)
def plexusref48_Leaves.ann : List (Nat × Ann) := [(1000003, ⟨rg [(0, 1), (2, 1), (5, 18)], []⟩)]
noncomputable def plexusref48_Leaves.lay : Lay := .nil
theorem plexusref48_Leaves.lay_good : plexusref48_Leaves.lay.good Tryz.prog := True.intro
noncomputable def plexusref48_Leaves.pl : Pl := ⟨0, plexusref48_Leaves.lay, plexusref48_Leaves.ann, (Go.Vx.bodyOf Tryz.f49)⟩
noncomputable def plexusref48_Leaves.l0 (n_ k : Nat)  (a0 : Int × Int × List (Int × Int × List Int)) (v0 : Int) (v4 : List Int) : Option (List Int) :=
  loopK n_ (execP Tryz.prog (plexusref48_Leaves.fns k) k (plC [1, 1, 0, 1, 0, 0] plexusref48_Leaves.pl)) (nmP (plC [1, 1, 0, 1, 0, 0] plexusref48_Leaves.pl)) ({ tmps := [AV.dead, AV.ptr 0 0, AV.dead, AV.own 1, AV.val (Value.int IntKind.i64 v0)] ++ dz 18, ents := [(0, Ent.box 34 [AV.val (Value.int IntKind.i64 a0.fst), AV.val (Value.int IntKind.i64 a0.snd.fst), AV.sh (K.pair (K.int IntKind.i64) (K.pair (K.int IntKind.i64) (K.slice (K.int IntKind.u64)))) a0.snd.snd]), (1, Ent.row { k := K.int IntKind.u64, T := 22, fz := false, xs := v4 })], nx := 2 }) (contP Tryz.prog (plexusref48_Leaves.fns k) k [1, 1, 0, 1, 0] [] plexusref48_Leaves.pl (finK Tryz.prog (plexusref48_Leaves.s0) Tryz.f49.results.toList))
theorem plexusref48_Leaves.l0_succ (n0 k : Nat)  (a0 : Int × Int × List (Int × Int × List Int)) (v0 : Int) (v4 : List Int) : plexusref48_Leaves.l0 (n0 + 1) k  a0 (v0) (v4) = (if (decide (v0 < (↑(List.length a0.snd.snd) : Int))) = true then (if 0 ≤ v0 then (if v0 < (↑(List.length a0.snd.snd) : Int) then (Option.bind (plexusref48_Leaf.m k ((List.getD a0.snd.snd (Int.toNat v0) (Int.ofNat 0, Int.ofNat 0, [])).fst, (List.getD a0.snd.snd (Int.toNat v0) (Int.ofNat 0, Int.ofNat 0, [])).snd.fst, (List.getD a0.snd.snd (Int.toNat v0) (Int.ofNat 0, Int.ofNat 0, [])).snd.snd)) fun (r68 : Int) => (if (List.length v4 + List.length [r68]) * 8 ≤ 140737488355328 then (plexusref48_Leaves.l0 n0 k  a0 (IntKind.wrap IntKind.i64 (v0 + 1)) (v4 ++ [r68])) else none)) else none) else none) else some (v4)) := by kernel_rfl
noncomputable def plexusref48_Leaves.m0 (k : Nat) (a0 : Int × Int × List (Int × Int × List Int)) : Option (List Int) :=
  execFI Tryz.prog (plexusref48_Leaves.fns k) plexusref48_Leaves.lay plexusref48_Leaves.ann k (plexusref48_Leaves.s0) 23 Tryz.f49.results.toList (Go.Vx.bodyOf Tryz.f49) a0
noncomputable def plexusref48_Leaves.m : (Nat) → (Int × Int × List (Int × Int × List Int)) → Option (List Int) := hide plexusref48_Leaves.m0
theorem plexusref48_Leaves.m_hid : plexusref48_Leaves.m = plexusref48_Leaves.m0 := hide_eq _
theorem plexusref48_Leaves.m_eq (k : Nat) (a0 : Int × Int × List (Int × Int × List Int)) : plexusref48_Leaves.m k a0 = (plexusref48_Leaves.l0 k k  a0 (0) ([])) := by
  rw [plexusref48_Leaves.m_hid]
  kernel_rfl
noncomputable def plexusref48_Leaves.sp (k : Nat) : Go.Vx.Spec := plexusref48_Leaves.s0.runs fun (x : plexusref48_Leaves.s0.argK.T) => plexusref48_Leaves.m k x
theorem plexusref48_Leaves.good (k : Nat) : Go.Vx.Good Tryz.prog 49 (plexusref48_Leaves.sp k) := Go.Vx.good_runsI Tryz.func49 (show Tryz.f49.body = some (Go.Vx.bodyOf Tryz.f49) by kernel_rfl) (by kernel_rfl) (by kernel_rfl) (plexusref48_Leaves.fns_good k) plexusref48_Leaves.lay_good (by
  intro x r h
  have h : plexusref48_Leaves.m k x = some r := h
  rw [plexusref48_Leaves.m_hid] at h
  exact h)
noncomputable def plexusref03_Join.s0 : Go.Vx.Spec := ⟨[none, none], (.pair (K.int IntKind.u64) (K.int IntKind.u64)), [.im (K.int IntKind.u64)], .one (none), false, fun _ => none⟩
noncomputable def plexusref03_Join.fns (k : Nat) : Go.Vx.Fns := [(69, plexusref03_Step.sp k)]
theorem plexusref03_Join.fns_good (k : Nat) : (plexusref03_Join.fns k).good Tryz.prog := (Go.Vx.Fns.good_cons (plexusref03_Step.good k) Go.Vx.Fns.good_nil)
def plexusref03_Join.ann : List (Nat × Ann) := []
noncomputable def plexusref03_Join.lay : Lay := .nil
theorem plexusref03_Join.lay_good : plexusref03_Join.lay.good Tryz.prog := True.intro
noncomputable def plexusref03_Join.pl : Pl := ⟨0, plexusref03_Join.lay, plexusref03_Join.ann, (Go.Vx.bodyOf Tryz.f47)⟩
noncomputable def plexusref03_Join.m0 (k : Nat) (a0 : Int) (a1 : Int) : Option (Int) :=
  execFI Tryz.prog (plexusref03_Join.fns k) plexusref03_Join.lay plexusref03_Join.ann k (plexusref03_Join.s0) 9 Tryz.f47.results.toList (Go.Vx.bodyOf Tryz.f47) (a0, a1)
noncomputable def plexusref03_Join.m : (Nat) → (Int) → (Int) → Option (Int) := hide plexusref03_Join.m0
theorem plexusref03_Join.m_hid : plexusref03_Join.m = plexusref03_Join.m0 := hide_eq _
theorem plexusref03_Join.m_eq (k : Nat) (a0 : Int) (a1 : Int) : plexusref03_Join.m k a0 a1 = (Option.bind (plexusref03_Step.m k 1785686382 a0) fun (r3 : Int) => (Option.bind (plexusref03_Step.m k r3 a1) fun (r6 : Int) => some (r6))) := by
  rw [plexusref03_Join.m_hid]
  kernel_rfl
noncomputable def plexusref03_Join.sp (k : Nat) : Go.Vx.Spec := plexusref03_Join.s0.runs fun (x : plexusref03_Join.s0.argK.T) => plexusref03_Join.m k x.1 x.2
theorem plexusref03_Join.good (k : Nat) : Go.Vx.Good Tryz.prog 47 (plexusref03_Join.sp k) := Go.Vx.good_runsI Tryz.func47 (show Tryz.f47.body = some (Go.Vx.bodyOf Tryz.f47) by kernel_rfl) (by kernel_rfl) (by kernel_rfl) (plexusref03_Join.fns_good k) plexusref03_Join.lay_good (by
  intro x r h
  have h : plexusref03_Join.m k x.1 x.2 = some r := h
  rw [plexusref03_Join.m_hid] at h
  exact h)
noncomputable def plexusref48_Root.s0 : Go.Vx.Spec := ⟨[some 3], (K.pair (K.int IntKind.i64) (K.pair (K.int IntKind.i64) (K.slice (K.pair (K.int IntKind.i64) (K.pair (K.int IntKind.i64) (K.slice (K.int IntKind.u64))))))), [.im (K.int IntKind.u64)], .one (none), false, fun _ => none⟩
noncomputable def plexusref48_Root.fns (k : Nat) : Go.Vx.Fns := [(49, plexusref48_Leaves.sp k), (48, rRoot.sp k), (47, plexusref03_Join.sp k)]
theorem plexusref48_Root.fns_good (k : Nat) : (plexusref48_Root.fns k).good Tryz.prog := (Go.Vx.Fns.good_cons (plexusref48_Leaves.good k) (Go.Vx.Fns.good_cons (rRoot.good k) (Go.Vx.Fns.good_cons (plexusref03_Join.good k) Go.Vx.Fns.good_nil)))
def plexusref48_Root.ann : List (Nat × Ann) := []
noncomputable def plexusref48_Root.lay : Lay := .nil
theorem plexusref48_Root.lay_good : plexusref48_Root.lay.good Tryz.prog := True.intro
noncomputable def plexusref48_Root.pl : Pl := ⟨0, plexusref48_Root.lay, plexusref48_Root.ann, (Go.Vx.bodyOf Tryz.f24)⟩
noncomputable def plexusref48_Root.m0 (k : Nat) (a0 : Int × Int × List (Int × Int × List Int)) : Option (Int) :=
  execFI Tryz.prog (plexusref48_Root.fns k) plexusref48_Root.lay plexusref48_Root.ann k (plexusref48_Root.s0) 11 Tryz.f24.results.toList (Go.Vx.bodyOf Tryz.f24) a0
noncomputable def plexusref48_Root.m : (Nat) → (Int × Int × List (Int × Int × List Int)) → Option (Int) := hide plexusref48_Root.m0
theorem plexusref48_Root.m_hid : plexusref48_Root.m = plexusref48_Root.m0 := hide_eq _
theorem plexusref48_Root.m_eq (k : Nat) (a0 : Int × Int × List (Int × Int × List Int)) : plexusref48_Root.m k a0 = (Option.bind (plexusref48_Leaves.m k (a0.fst, a0.snd.fst, a0.snd.snd)) fun (r4 : List Int) => (Option.bind (rRoot.h k r4) fun (r6 : Int) => (Option.bind (plexusref03_Join.m k r6 (IntKind.wrap IntKind.u64 (↑(List.length a0.snd.snd) : Int))) fun (r12 : Int) => some (r12)))) := by
  rw [plexusref48_Root.m_hid]
  kernel_rfl
noncomputable def plexusref48_Root.sp (k : Nat) : Go.Vx.Spec := plexusref48_Root.s0.runs fun (x : plexusref48_Root.s0.argK.T) => plexusref48_Root.m k x
theorem plexusref48_Root.good (k : Nat) : Go.Vx.Good Tryz.prog 24 (plexusref48_Root.sp k) := Go.Vx.good_runsI Tryz.func24 (show Tryz.f24.body = some (Go.Vx.bodyOf Tryz.f24) by kernel_rfl) (by kernel_rfl) (by kernel_rfl) (plexusref48_Root.fns_good k) plexusref48_Root.lay_good (by
  intro x r h
  have h : plexusref48_Root.m k x = some r := h
  rw [plexusref48_Root.m_hid] at h
  exact h)
noncomputable def plexusref48_NextIn.s0 : Go.Vx.Spec := ⟨[none, none, some 3], (.pair (K.int IntKind.u64) (.pair (K.slice (K.pair (K.int IntKind.i64) (K.pair (K.int IntKind.u64) (K.pair (K.int IntKind.u64) (K.int IntKind.u64))))) (K.pair (K.int IntKind.i64) (K.pair (K.int IntKind.i64) (K.slice (K.pair (K.int IntKind.i64) (K.pair (K.int IntKind.i64) (K.slice (K.int IntKind.u64))))))))), [.im (K.pair (K.slice (K.pair (K.int IntKind.i64) (K.pair (K.int IntKind.u64) (K.pair (K.int IntKind.u64) (K.int IntKind.u64))))) (K.int IntKind.i64))], .one (some 2), true, fun _ => none⟩
noncomputable def plexusref48_NextIn.fns (k : Nat) : Go.Vx.Fns := [(25, plexusref48_Check.sp k), (51, plexusref21_Right.sp k), (24, plexusref48_Root.sp k), (21, plexusref48_Digest.sp k), (50, plexusref48_Tag.sp k)]
theorem plexusref48_NextIn.fns_good (k : Nat) : (plexusref48_NextIn.fns k).good Tryz.prog := (Go.Vx.Fns.good_cons (plexusref48_Check.good k) (Go.Vx.Fns.good_cons (plexusref21_Right.good k) (Go.Vx.Fns.good_cons (plexusref48_Root.good k) (Go.Vx.Fns.good_cons (plexusref48_Digest.good k) (Go.Vx.Fns.good_cons (plexusref48_Tag.good k) Go.Vx.Fns.good_nil)))))
def plexusref48_NextIn.ann : List (Nat × Ann) := [(2000010, ⟨rg [(2, 4), (8, 41)], []⟩)]
noncomputable def plexusref48_NextIn.lay : Lay := .nil
theorem plexusref48_NextIn.lay_good : plexusref48_NextIn.lay.good Tryz.prog := True.intro
noncomputable def plexusref48_NextIn.pl : Pl := ⟨0, plexusref48_NextIn.lay, plexusref48_NextIn.ann, (Go.Vx.bodyOf Tryz.f27)⟩
noncomputable def plexusref48_NextIn.j0 (k : Nat)  (a0 : Int) (a1 : List (Int × Int × Int × Int)) (r28 : Int) (v4 : Int) : Option (List (Int × Int × Int × Int) × Int) :=
  joinK (fun s_ => execP Tryz.prog (plexusref48_NextIn.fns k) k (plC [1, 1, 1, 1, 1, 1] plexusref48_NextIn.pl) s_ (contP Tryz.prog (plexusref48_NextIn.fns k) k [1, 1, 1, 1, 1, 1] [] plexusref48_NextIn.pl (finK Tryz.prog (plexusref48_NextIn.s0) Tryz.f27.results.toList))) ({ tmps := [AV.val (Value.int IntKind.u64 a0), AV.sh (K.pair (K.int IntKind.i64) (K.pair (K.int IntKind.u64) (K.pair (K.int IntKind.u64) (K.int IntKind.u64)))) a1] ++ dz 4 ++ [AV.ptr 0 0, AV.ptr 1 0] ++ dz 41, ents := [(0, Ent.box 38 [AV.val (Value.slice none 0 0), AV.val (Value.int IntKind.i64 0)]), (1, Ent.box 42 [AV.val (Value.int IntKind.i64 (IntKind.wrap IntKind.i64 ((↑(List.length a1) : Int) + 1))), AV.val (Value.int IntKind.u64 v4), AV.val (Value.int IntKind.u64 r28), AV.val (Value.int IntKind.u64 0)])], nx := 2 })
theorem plexusref48_NextIn.j0_eq (k : Nat)  (a0 : Int) (a1 : List (Int × Int × Int × Int)) (r28 : Int) (v4 : Int) : plexusref48_NextIn.j0 k  a0 a1 r28 (v4) = (Option.bind (plexusref48_Tag.m k a0 (IntKind.wrap IntKind.i64 ((↑(List.length a1) : Int) + 1), v4, r28, 0)) fun (r52 : Int) => (if (0 + List.length a1) * 32 ≤ 140737488355328 then (if (List.length a1 + List.length [(IntKind.wrap IntKind.i64 ((↑(List.length a1) : Int) + 1), v4, r28, r52)]) * 32 ≤ 140737488355328 then some ((List.append a1 [(IntKind.wrap IntKind.i64 ((↑(List.length a1) : Int) + 1), v4, r28, r52)], 0)) else none) else none)) := by
  unfold plexusref48_NextIn.j0
  rw [joinK_eq]
  kernel_rfl
noncomputable def plexusref48_NextIn.m0 (k : Nat) (a0 : Int) (a1 : List (Int × Int × Int × Int)) (a2 : Int × Int × List (Int × Int × List Int)) : Option (List (Int × Int × Int × Int) × Int) :=
  execFI Tryz.prog (plexusref48_NextIn.fns k) plexusref48_NextIn.lay plexusref48_NextIn.ann k (plexusref48_NextIn.s0) 49 Tryz.f27.results.toList (Go.Vx.bodyOf Tryz.f27) (a0, a1, a2)
noncomputable def plexusref48_NextIn.m : (Nat) → (Int) → (List (Int × Int × Int × Int)) → (Int × Int × List (Int × Int × List Int)) → Option (List (Int × Int × Int × Int) × Int) := hide plexusref48_NextIn.m0
theorem plexusref48_NextIn.m_hid : plexusref48_NextIn.m = plexusref48_NextIn.m0 := hide_eq _
theorem plexusref48_NextIn.m_eq (k : Nat) (a0 : Int) (a1 : List (Int × Int × Int × Int)) (a2 : Int × Int × List (Int × Int × List Int)) : plexusref48_NextIn.m k a0 a1 a2 = (Option.bind (plexusref48_Check.m k a0 a1) fun (r5 : Int) => (if (r5 != 0) = true then some (([], 480)) else (Option.bind (plexusref21_Right.m k (a2.fst, a2.snd.fst, a2.snd.snd)) fun (r12 : Int) => (if (r12 != 0) = true then some (([], 210)) else (if (decide ((↑(List.length a1) : Int) ≥ 60)) = true then some (([], 2)) else (Option.bind (plexusref48_Root.m k (a2.fst, a2.snd.fst, a2.snd.snd)) fun (r28 : Int) => (if (decide ((↑(List.length a1) : Int) > 0)) = true then (if 0 ≤ IntKind.wrap IntKind.i64 ((↑(List.length a1) : Int) - 1) then (if IntKind.wrap IntKind.i64 ((↑(List.length a1) : Int) - 1) < (↑(List.length a1) : Int) then (Option.bind (plexusref48_Digest.m k ((List.getD a1 (Int.toNat (IntKind.wrap IntKind.i64 ((↑(List.length a1) : Int) - 1))) (Int.ofNat 0, Int.ofNat 0, Int.ofNat 0, Int.ofNat 0)).fst, (List.getD a1 (Int.toNat (IntKind.wrap IntKind.i64 ((↑(List.length a1) : Int) - 1))) (Int.ofNat 0, Int.ofNat 0, Int.ofNat 0, Int.ofNat 0)).snd.fst, (List.getD a1 (Int.toNat (IntKind.wrap IntKind.i64 ((↑(List.length a1) : Int) - 1))) (Int.ofNat 0, Int.ofNat 0, Int.ofNat 0, Int.ofNat 0)).snd.snd.fst, (List.getD a1 (Int.toNat (IntKind.wrap IntKind.i64 ((↑(List.length a1) : Int) - 1))) (Int.ofNat 0, Int.ofNat 0, Int.ofNat 0, Int.ofNat 0)).snd.snd.snd)) fun (r80 : Int) => (plexusref48_NextIn.j0 k  a0 a1 r28 (r80))) else none) else none) else (plexusref48_NextIn.j0 k  a0 a1 r28 (0))))))))) := by
  rw [plexusref48_NextIn.m_hid]
  kernel_rfl
noncomputable def plexusref48_NextIn.sp (k : Nat) : Go.Vx.Spec := plexusref48_NextIn.s0.runs fun (x : plexusref48_NextIn.s0.argK.T) => plexusref48_NextIn.m k x.1 x.2.1 x.2.2
theorem plexusref48_NextIn.good (k : Nat) : Go.Vx.Good Tryz.prog 27 (plexusref48_NextIn.sp k) := Go.Vx.good_runsI Tryz.func27 (show Tryz.f27.body = some (Go.Vx.bodyOf Tryz.f27) by kernel_rfl) (by kernel_rfl) (by kernel_rfl) (plexusref48_NextIn.fns_good k) plexusref48_NextIn.lay_good (by
  intro x r h
  have h : plexusref48_NextIn.m k x.1 x.2.1 x.2.2 = some r := h
  rw [plexusref48_NextIn.m_hid] at h
  exact h)
noncomputable def plexusref48_Made.s0 : Go.Vx.Spec := ⟨[some 2], (K.pair (K.int IntKind.u64) (K.slice (K.pair (K.int IntKind.u8) (K.pair (K.int IntKind.u8) (K.slice (K.slice (K.int IntKind.u8))))))), [.im (K.slice (K.pair (K.int IntKind.i64) (K.pair (K.int IntKind.u64) (K.pair (K.int IntKind.u64) (K.int IntKind.u64)))))], .one (none), true, fun _ => none⟩
noncomputable def plexusref48_Made.fns (k : Nat) : Go.Vx.Fns := [(11, plexusref21_Made.sp k), (27, plexusref48_NextIn.sp k)]
theorem plexusref48_Made.fns_good (k : Nat) : (plexusref48_Made.fns k).good Tryz.prog := (Go.Vx.Fns.good_cons (plexusref21_Made.good k) (Go.Vx.Fns.good_cons (plexusref48_NextIn.good k) Go.Vx.Fns.good_nil))
def plexusref48_Made.ann : List (Nat × Ann) := [(1000003, ⟨rg [(0, 1), (2, 1), (5, 24)], [(3, none, K.pair (K.int IntKind.i64) (K.pair (K.int IntKind.u64) (K.pair (K.int IntKind.u64) (K.int IntKind.u64))), none)]⟩)]
noncomputable def plexusref48_Made.lay : Lay := .nil
theorem plexusref48_Made.lay_good : plexusref48_Made.lay.good Tryz.prog := True.intro
noncomputable def plexusref48_Made.pl : Pl := ⟨0, plexusref48_Made.lay, plexusref48_Made.ann, (Go.Vx.bodyOf Tryz.f10)⟩
noncomputable def plexusref48_Made.l0 (n_ k : Nat)  (a0 : Int × List (Int × Int × List (List Int))) (v0 : List (Int × Int × Int × Int)) (v1 : Int) : Option (List (Int × Int × Int × Int)) :=
  loopK n_ (execP Tryz.prog (plexusref48_Made.fns k) k (plC [1, 1, 0, 1, 0, 0] plexusref48_Made.pl)) (nmP (plC [1, 1, 0, 1, 0, 0] plexusref48_Made.pl)) ({ tmps := [AV.dead, AV.ptr 0 0, AV.dead, AV.sh (K.pair (K.int IntKind.i64) (K.pair (K.int IntKind.u64) (K.pair (K.int IntKind.u64) (K.int IntKind.u64)))) v0, AV.val (Value.int IntKind.i64 v1)] ++ dz 24, ents := [(0, Ent.box 25 [AV.val (Value.int IntKind.u64 a0.fst), AV.sh (K.pair (K.int IntKind.u8) (K.pair (K.int IntKind.u8) (K.slice (K.slice (K.int IntKind.u8))))) a0.snd])], nx := 1 }) (contP Tryz.prog (plexusref48_Made.fns k) k [1, 1, 0, 1, 0] [] plexusref48_Made.pl (finK Tryz.prog (plexusref48_Made.s0) Tryz.f10.results.toList))
theorem plexusref48_Made.l0_succ (n0 k : Nat)  (a0 : Int × List (Int × Int × List (List Int))) (v0 : List (Int × Int × Int × Int)) (v1 : Int) : plexusref48_Made.l0 (n0 + 1) k  a0 (v0) (v1) = (if decide (v1 < (↑(List.length a0.snd) : Int)) = true then (if (decide (v1 < 4)) = true then (if 0 ≤ v1 then (if v1 < (↑(List.length a0.snd) : Int) then (Option.bind (plexusref21_Made.m k ((List.getD a0.snd (Int.toNat v1) (Int.ofNat 0, Int.ofNat 0, [])).fst, (List.getD a0.snd (Int.toNat v1) (Int.ofNat 0, Int.ofNat 0, [])).snd.fst, (List.getD a0.snd (Int.toNat v1) (Int.ofNat 0, Int.ofNat 0, [])).snd.snd)) fun (r103 : Int × Int × List (Int × Int × List Int)) => (Option.bind (plexusref48_NextIn.m k a0.fst v0 (r103.fst, r103.snd.fst, r103.snd.snd)) fun (r105 : List (Int × Int × Int × Int) × Int) => (plexusref48_Made.l0 n0 k  a0 (r105.fst) (IntKind.wrap IntKind.i64 (v1 + 1))))) else none) else none) else some (v0)) else some (v0)) := by kernel_rfl
noncomputable def plexusref48_Made.m0 (k : Nat) (a0 : Int × List (Int × Int × List (List Int))) : Option (List (Int × Int × Int × Int)) :=
  execFI Tryz.prog (plexusref48_Made.fns k) plexusref48_Made.lay plexusref48_Made.ann k (plexusref48_Made.s0) 29 Tryz.f10.results.toList (Go.Vx.bodyOf Tryz.f10) a0
noncomputable def plexusref48_Made.m : (Nat) → (Int × List (Int × Int × List (List Int))) → Option (List (Int × Int × Int × Int)) := hide plexusref48_Made.m0
theorem plexusref48_Made.m_hid : plexusref48_Made.m = plexusref48_Made.m0 := hide_eq _
theorem plexusref48_Made.m_eq (k : Nat) (a0 : Int × List (Int × Int × List (List Int))) : plexusref48_Made.m k a0 = (plexusref48_Made.l0 k k  a0 ([]) (0)) := by
  rw [plexusref48_Made.m_hid]
  kernel_rfl
noncomputable def plexusref48_Made.sp (k : Nat) : Go.Vx.Spec := plexusref48_Made.s0.runs fun (x : plexusref48_Made.s0.argK.T) => plexusref48_Made.m k x
theorem plexusref48_Made.good (k : Nat) : Go.Vx.Good Tryz.prog 10 (plexusref48_Made.sp k) := Go.Vx.good_runsI Tryz.func10 (show Tryz.f10.body = some (Go.Vx.bodyOf Tryz.f10) by kernel_rfl) (by kernel_rfl) (by kernel_rfl) (plexusref48_Made.fns_good k) plexusref48_Made.lay_good (by
  intro x r h
  have h : plexusref48_Made.m k x = some r := h
  rw [plexusref48_Made.m_hid] at h
  exact h)
end Go.Proofs.YtjnpcpnjcieheaaGreat.V48
