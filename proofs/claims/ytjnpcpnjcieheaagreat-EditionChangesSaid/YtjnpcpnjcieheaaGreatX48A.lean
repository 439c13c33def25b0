/- Functions as the abstract executor tells them: equations, and contracts; printed by a tool. -/
import Derived.Test.YtjnpcpnjcieheaaGreatVsP
namespace Go.Proofs.YtjnpcpnjcieheaaGreat.V48
open Go Go.Vx Go.Proofs
set_option linter.unusedVariables false
set_option maxRecDepth 100000
noncomputable def seal_digest_step.s0 : Go.Vx.Spec := ⟨[none, none], (.pair (K.int IntKind.u64) (K.int IntKind.u64)), [.im (K.int IntKind.u64)], .one (none), false, fun _ => none⟩
noncomputable def seal_digest_step.fns (k : Nat) : Go.Vx.Fns := []
theorem seal_digest_step.fns_good (k : Nat) : (seal_digest_step.fns k).good Tryz.prog := Go.Vx.Fns.good_nil
def seal_digest_step.ann : List (Nat × Ann) := []
noncomputable def seal_digest_step.lay : Lay := .nil
theorem seal_digest_step.lay_good : seal_digest_step.lay.good Tryz.prog := True.intro
noncomputable def seal_digest_step.pl : Pl := ⟨0, seal_digest_step.lay, seal_digest_step.ann, (Go.Vx.bodyOf Tryz.f58)⟩
noncomputable def seal_digest_step.m0 (k : Nat) (a0 : Int) (a1 : Int) : Option (Int) :=
  execFI Tryz.prog (seal_digest_step.fns k) seal_digest_step.lay seal_digest_step.ann k (seal_digest_step.s0) 15 Tryz.f58.results.toList (Go.Vx.bodyOf Tryz.f58) (a0, a1)
noncomputable def seal_digest_step.m : (Nat) → (Int) → (Int) → Option (Int) := hide seal_digest_step.m0
theorem seal_digest_step.m_hid : seal_digest_step.m = seal_digest_step.m0 := hide_eq _
theorem seal_digest_step.m_eq (k : Nat) (a0 : Int) (a1 : Int) : seal_digest_step.m k a0 a1 = some (IntKind.wrap IntKind.u64 (IntKind.wrap IntKind.u64 (↑(BitVec.toNat (BitVec.ofInt (IntKind.bits IntKind.u64) (IntKind.wrap IntKind.u64 (IntKind.wrap IntKind.u64 (↑(BitVec.toNat (BitVec.ofInt (IntKind.bits IntKind.u64) a0 ^^^ BitVec.ofInt (IntKind.bits IntKind.u64) a1)) : Int) * 11400714819323198485)) ^^^ BitVec.ofInt (IntKind.bits IntKind.u64) (shF BinOp.shr IntKind.u64 (IntKind.wrap IntKind.u64 (IntKind.wrap IntKind.u64 (↑(BitVec.toNat (BitVec.ofInt (IntKind.bits IntKind.u64) a0 ^^^ BitVec.ofInt (IntKind.bits IntKind.u64) a1)) : Int) * 11400714819323198485)) 29))) : Int) * 13787848793156543929)) := by
  rw [seal_digest_step.m_hid]
  kernel_rfl
noncomputable def seal_digest_step.sp (k : Nat) : Go.Vx.Spec := seal_digest_step.s0.runs fun (x : seal_digest_step.s0.argK.T) => seal_digest_step.m k x.1 x.2
theorem seal_digest_step.good (k : Nat) : Go.Vx.Good Tryz.prog 58 (seal_digest_step.sp k) := Go.Vx.good_runsI Tryz.func58 (show Tryz.f58.body = some (Go.Vx.bodyOf Tryz.f58) by kernel_rfl) (by kernel_rfl) (by kernel_rfl) (seal_digest_step.fns_good k) seal_digest_step.lay_good (by
  intro x r h
  have h : seal_digest_step.m k x.1 x.2 = some r := h
  rw [seal_digest_step.m_hid] at h
  exact h)
noncomputable def seal_Join.s0 : Go.Vx.Spec := ⟨[none, none], (.pair (K.int IntKind.u64) (K.int IntKind.u64)), [.im (K.int IntKind.u64)], .one (none), false, fun _ => none⟩
noncomputable def seal_Join.fns (k : Nat) : Go.Vx.Fns := [(58, seal_digest_step.sp k)]
theorem seal_Join.fns_good (k : Nat) : (seal_Join.fns k).good Tryz.prog := (Go.Vx.Fns.good_cons (seal_digest_step.good k) Go.Vx.Fns.good_nil)
def seal_Join.ann : List (Nat × Ann) := []
noncomputable def seal_Join.lay : Lay := .nil
theorem seal_Join.lay_good : seal_Join.lay.good Tryz.prog := True.intro
noncomputable def seal_Join.pl : Pl := ⟨0, seal_Join.lay, seal_Join.ann, (Go.Vx.bodyOf Tryz.f35)⟩
noncomputable def seal_Join.m0 (k : Nat) (a0 : Int) (a1 : Int) : Option (Int) :=
  execFI Tryz.prog (seal_Join.fns k) seal_Join.lay seal_Join.ann k (seal_Join.s0) 9 Tryz.f35.results.toList (Go.Vx.bodyOf Tryz.f35) (a0, a1)
noncomputable def seal_Join.m : (Nat) → (Int) → (Int) → Option (Int) := hide seal_Join.m0
theorem seal_Join.m_hid : seal_Join.m = seal_Join.m0 := hide_eq _
theorem seal_Join.m_eq (k : Nat) (a0 : Int) (a1 : Int) : seal_Join.m k a0 a1 = (Option.bind (seal_digest_step.m k 1785686382 a0) fun (r3 : Int) => (Option.bind (seal_digest_step.m k r3 a1) fun (r6 : Int) => some (r6))) := by
  rw [seal_Join.m_hid]
  kernel_rfl
noncomputable def seal_Join.sp (k : Nat) : Go.Vx.Spec := seal_Join.s0.runs fun (x : seal_Join.s0.argK.T) => seal_Join.m k x.1 x.2
theorem seal_Join.good (k : Nat) : Go.Vx.Good Tryz.prog 35 (seal_Join.sp k) := Go.Vx.good_runsI Tryz.func35 (show Tryz.f35.body = some (Go.Vx.bodyOf Tryz.f35) by kernel_rfl) (by kernel_rfl) (by kernel_rfl) (seal_Join.fns_good k) seal_Join.lay_good (by
  intro x r h
  have h : seal_Join.m k x.1 x.2 = some r := h
  rw [seal_Join.m_hid] at h
  exact h)
noncomputable def edition_Digest.s0 : Go.Vx.Spec := ⟨[some 4], (K.pair (K.int IntKind.i64) (K.pair (K.int IntKind.u64) (K.pair (K.int IntKind.u64) (K.int IntKind.u64)))), [.im (K.int IntKind.u64)], .one (none), false, fun _ => none⟩
noncomputable def edition_Digest.fns (k : Nat) : Go.Vx.Fns := [(36, cWords.sp k)]
theorem edition_Digest.fns_good (k : Nat) : (edition_Digest.fns k).good Tryz.prog := (Go.Vx.Fns.good_cons (cWords.good k) Go.Vx.Fns.good_nil)
def edition_Digest.ann : List (Nat × Ann) := []
def edition_Digest.ann1 : List (Nat × Ann) := [(1000001, ⟨rg [(1, 5), (9, 13)], []⟩)]
noncomputable def edition_Digest.lay : Lay := (.cons 2 7 45 [0, 1, 2, 4, 5, 6, 7, 8, 9, 10, 11, 12, 13, 14, 15, 16] Tryz.f45 edition_Digest.ann1 .nil .nil)
theorem edition_Digest.lay_good : edition_Digest.lay.good Tryz.prog := ⟨⟨Tryz.func45, by kernel_rfl, by kernel_rfl⟩, True.intro, True.intro⟩
noncomputable def edition_Digest.pl : Pl := ⟨0, edition_Digest.lay, edition_Digest.ann, (Go.Vx.bodyOf Tryz.f20)⟩
noncomputable def edition_Digest.l0 (n_ k : Nat)  (a0 : Int × Int × Int × Int) (v1 : Int) (v3 : List Int) : Option (Int) :=
  loopK n_ (execP Tryz.prog (edition_Digest.fns k) k (plC [1, 1, 0, 184327, 1, 0, 0] edition_Digest.pl)) (nmP (plC [1, 1, 0, 184327, 1, 0, 0] edition_Digest.pl)) ({ tmps := [AV.ptr 1 0] ++ dz 5 ++ [AV.own 2, AV.val (Value.int IntKind.i64 (↑(List.length [a0.snd.fst, a0.snd.snd.fst, a0.snd.snd.snd]) : Int)), AV.val (Value.int IntKind.i64 v1)] ++ dz 13, ents := [(0, Ent.ghost 0 [AV.dead, AV.dead, AV.dead, AV.ptr 1 0, AV.dead, AV.dead, AV.dead, AV.dead, AV.dead, AV.dead, AV.dead, AV.dead, AV.dead, AV.dead, AV.dead, AV.dead, AV.dead]), (1, Ent.box 95 [AV.own 3]), (2, Ent.row { k := K.int IntKind.u64, T := 22, fz := false, xs := [a0.snd.fst, a0.snd.snd.fst, a0.snd.snd.snd] }), (3, Ent.row { k := K.int IntKind.i64, T := 3, fz := false, xs := v3 })], nx := 4 }) (contP Tryz.prog (edition_Digest.fns k) k [1, 1, 0, 184327, 1, 0] [] edition_Digest.pl (finK Tryz.prog (edition_Digest.s0) Tryz.f20.results.toList))
theorem edition_Digest.l0_succ (n0 k : Nat)  (a0 : Int × Int × Int × Int) (v1 : Int) (v3 : List Int) : edition_Digest.l0 (n0 + 1) k  a0 (v1) (v3) = (if (decide (v1 < (↑(List.length [a0.snd.fst, a0.snd.snd.fst, a0.snd.snd.snd]) : Int))) = true then (if 0 ≤ v1 then (if v1 < (↑(List.length [a0.snd.fst, a0.snd.snd.fst, a0.snd.snd.snd]) : Int) then (if (List.length v3 + List.length [IntKind.wrap IntKind.i64 (List.getD [a0.snd.fst, a0.snd.snd.fst, a0.snd.snd.snd] (Int.toNat v1) (Int.ofNat 0))]) * 8 ≤ 140737488355328 then (edition_Digest.l0 n0 k  a0 (IntKind.wrap IntKind.i64 (v1 + 1)) (v3 ++ [IntKind.wrap IntKind.i64 (List.getD [a0.snd.fst, a0.snd.snd.fst, a0.snd.snd.snd] (Int.toNat v1) (Int.ofNat 0))])) else none) else none) else none) else (Option.bind (cWords.h v3) fun (r85 : Int) => some (r85))) := by kernel_rfl
noncomputable def edition_Digest.m0 (k : Nat) (a0 : Int × Int × Int × Int) : Option (Int) :=
  execFI Tryz.prog (edition_Digest.fns k) edition_Digest.lay edition_Digest.ann k (edition_Digest.s0) 17 Tryz.f20.results.toList (Go.Vx.bodyOf Tryz.f20) a0
noncomputable def edition_Digest.m : (Nat) → (Int × Int × Int × Int) → Option (Int) := hide edition_Digest.m0
theorem edition_Digest.m_hid : edition_Digest.m = edition_Digest.m0 := hide_eq _
theorem edition_Digest.m_eq (k : Nat) (a0 : Int × Int × Int × Int) : edition_Digest.m k a0 = (edition_Digest.l0 k k  a0 (0) ([a0.fst])) := by
  rw [edition_Digest.m_hid]
  kernel_rfl
noncomputable def edition_Digest.sp (k : Nat) : Go.Vx.Spec := edition_Digest.s0.runs fun (x : edition_Digest.s0.argK.T) => edition_Digest.m k x
theorem edition_Digest.good (k : Nat) : Go.Vx.Good Tryz.prog 20 (edition_Digest.sp k) := Go.Vx.good_runsI Tryz.func20 (show Tryz.f20.body = some (Go.Vx.bodyOf Tryz.f20) by kernel_rfl) (by kernel_rfl) (by kernel_rfl) (edition_Digest.fns_good k) edition_Digest.lay_good (by
  intro x r h
  have h : edition_Digest.m k x = some r := h
  rw [edition_Digest.m_hid] at h
  exact h)
noncomputable def seal_Step.s0 : Go.Vx.Spec := ⟨[none, none], (.pair (K.int IntKind.u64) (K.int IntKind.u64)), [.im (K.int IntKind.u64)], .one (none), false, fun _ => none⟩
noncomputable def seal_Step.fns (k : Nat) : Go.Vx.Fns := [(58, seal_digest_step.sp k)]
theorem seal_Step.fns_good (k : Nat) : (seal_Step.fns k).good Tryz.prog := (Go.Vx.Fns.good_cons (seal_digest_step.good k) Go.Vx.Fns.good_nil)
def seal_Step.ann : List (Nat × Ann) := []
noncomputable def seal_Step.lay : Lay := .nil
theorem seal_Step.lay_good : seal_Step.lay.good Tryz.prog := True.intro
noncomputable def seal_Step.pl : Pl := ⟨0, seal_Step.lay, seal_Step.ann, (Go.Vx.bodyOf Tryz.f61)⟩
noncomputable def seal_Step.m0 (k : Nat) (a0 : Int) (a1 : Int) : Option (Int) :=
  execFI Tryz.prog (seal_Step.fns k) seal_Step.lay seal_Step.ann k (seal_Step.s0) 8 Tryz.f61.results.toList (Go.Vx.bodyOf Tryz.f61) (a0, a1)
noncomputable def seal_Step.m : (Nat) → (Int) → (Int) → Option (Int) := hide seal_Step.m0
theorem seal_Step.m_hid : seal_Step.m = seal_Step.m0 := hide_eq _
theorem seal_Step.m_eq (k : Nat) (a0 : Int) (a1 : Int) : seal_Step.m k a0 a1 = (Option.bind (seal_digest_step.m k a0 a1) fun (r4 : Int) => some (r4)) := by
  rw [seal_Step.m_hid]
  kernel_rfl
noncomputable def seal_Step.sp (k : Nat) : Go.Vx.Spec := seal_Step.s0.runs fun (x : seal_Step.s0.argK.T) => seal_Step.m k x.1 x.2
theorem seal_Step.good (k : Nat) : Go.Vx.Good Tryz.prog 61 (seal_Step.sp k) := Go.Vx.good_runsI Tryz.func61 (show Tryz.f61.body = some (Go.Vx.bodyOf Tryz.f61) by kernel_rfl) (by kernel_rfl) (by kernel_rfl) (seal_Step.fns_good k) seal_Step.lay_good (by
  intro x r h
  have h : seal_Step.m k x.1 x.2 = some r := h
  rw [seal_Step.m_hid] at h
  exact h)
noncomputable def seal_Tag.s0 : Go.Vx.Spec := ⟨[none, none], (.pair (K.int IntKind.u64) (K.slice (K.int IntKind.i64))), [.im (K.int IntKind.u64)], .one (none), false, fun _ => none⟩
noncomputable def seal_Tag.fns (k : Nat) : Go.Vx.Fns := [(36, cWords.sp k), (61, seal_Step.sp k)]
theorem seal_Tag.fns_good (k : Nat) : (seal_Tag.fns k).good Tryz.prog := (Go.Vx.Fns.good_cons (cWords.good k) (Go.Vx.Fns.good_cons (seal_Step.good k) Go.Vx.Fns.good_nil))
def seal_Tag.ann : List (Nat × Ann) := []
noncomputable def seal_Tag.lay : Lay := .nil
theorem seal_Tag.lay_good : seal_Tag.lay.good Tryz.prog := True.intro
noncomputable def seal_Tag.pl : Pl := ⟨0, seal_Tag.lay, seal_Tag.ann, (Go.Vx.bodyOf Tryz.f37)⟩
noncomputable def seal_Tag.m0 (k : Nat) (a0 : Int) (a1 : List Int) : Option (Int) :=
  execFI Tryz.prog (seal_Tag.fns k) seal_Tag.lay seal_Tag.ann k (seal_Tag.s0) 9 Tryz.f37.results.toList (Go.Vx.bodyOf Tryz.f37) (a0, a1)
noncomputable def seal_Tag.m : (Nat) → (Int) → (List Int) → Option (Int) := hide seal_Tag.m0
theorem seal_Tag.m_hid : seal_Tag.m = seal_Tag.m0 := hide_eq _
theorem seal_Tag.m_eq (k : Nat) (a0 : Int) (a1 : List Int) : seal_Tag.m k a0 a1 = (Option.bind (cWords.h a1) fun (r4 : Int) => (Option.bind (seal_Step.m k a0 r4) fun (r6 : Int) => some (r6))) := by
  rw [seal_Tag.m_hid]
  kernel_rfl
noncomputable def seal_Tag.sp (k : Nat) : Go.Vx.Spec := seal_Tag.s0.runs fun (x : seal_Tag.s0.argK.T) => seal_Tag.m k x.1 x.2
theorem seal_Tag.good (k : Nat) : Go.Vx.Good Tryz.prog 37 (seal_Tag.sp k) := Go.Vx.good_runsI Tryz.func37 (show Tryz.f37.body = some (Go.Vx.bodyOf Tryz.f37) by kernel_rfl) (by kernel_rfl) (by kernel_rfl) (seal_Tag.fns_good k) seal_Tag.lay_good (by
  intro x r h
  have h : seal_Tag.m k x.1 x.2 = some r := h
  rw [seal_Tag.m_hid] at h
  exact h)
noncomputable def edition_signed.s0 : Go.Vx.Spec := ⟨[none, none, none], (.pair (K.int IntKind.u64) (.pair (K.slice (K.pair (K.int IntKind.i64) (K.pair (K.int IntKind.u64) (K.pair (K.int IntKind.u64) (K.int IntKind.u64))))) (K.int IntKind.u64))), [.im (K.pair (K.int IntKind.i64) (K.pair (K.int IntKind.u64) (K.pair (K.int IntKind.u64) (K.int IntKind.u64))))], .one (some 4), false, fun _ => none⟩
noncomputable def edition_signed.fns (k : Nat) : Go.Vx.Fns := [(20, edition_Digest.sp k), (37, seal_Tag.sp k)]
theorem edition_signed.fns_good (k : Nat) : (edition_signed.fns k).good Tryz.prog := (Go.Vx.Fns.good_cons (edition_Digest.good k) (Go.Vx.Fns.good_cons (seal_Tag.good k) Go.Vx.Fns.good_nil))
def edition_signed.ann : List (Nat × Ann) := [(2000004, ⟨rg [(1, 5), (8, 34)], []⟩)]
def edition_signed.ann1 : List (Nat × Ann) := [(1000001, ⟨rg [(1, 5), (9, 13)], []⟩)]
noncomputable def edition_signed.lay : Lay := (.cons 6 6 45 [1, 2, 3, 4, 5, 9, 10, 11, 12, 13, 14, 15, 16, 17, 18, 19, 20, 21, 22, 23, 24, 25, 26, 27, 28, 29, 30, 31, 32, 33, 34, 35, 36, 37, 38, 39, 40, 41] Tryz.f45 edition_signed.ann1 .nil .nil)
theorem edition_signed.lay_good : edition_signed.lay.good Tryz.prog := ⟨⟨Tryz.func45, by kernel_rfl, by kernel_rfl⟩, True.intro, True.intro⟩
noncomputable def edition_signed.pl : Pl := ⟨0, edition_signed.lay, edition_signed.ann, (Go.Vx.bodyOf Tryz.f43)⟩
noncomputable def edition_signed.l0 (n_ k : Nat)  (a0 : Int) (a1 : List (Int × Int × Int × Int)) (a2 : Int) (v6 : Int) (v1 : Int) (v12 : List Int) : Option (Int × Int × Int × Int) :=
  loopK n_ (execP Tryz.prog (edition_signed.fns k) k (plC [1, 1, 1, 1, 1, 0, 184326, 1, 0, 0] edition_signed.pl)) (nmP (plC [1, 1, 1, 1, 1, 0, 184326, 1, 0, 0] edition_signed.pl)) ({ tmps := [AV.ptr 1 0] ++ dz 5 ++ [AV.own 2, AV.val (Value.int IntKind.i64 (↑(List.length [v6, a2]) : Int)), AV.val (Value.int IntKind.i64 v1)] ++ dz 13, ents := [(0, Ent.ghost 0 [AV.val (Value.int IntKind.u64 a0), AV.dead, AV.dead, AV.dead, AV.dead, AV.dead, AV.ptr 3 0, AV.ptr 4 0, AV.ptr 1 0, AV.dead, AV.dead, AV.dead, AV.dead, AV.dead, AV.dead, AV.dead, AV.dead, AV.dead, AV.dead, AV.dead, AV.dead, AV.dead, AV.dead, AV.dead, AV.dead, AV.dead, AV.dead, AV.dead, AV.dead, AV.dead, AV.dead, AV.dead, AV.dead, AV.dead, AV.dead, AV.dead, AV.dead, AV.dead, AV.dead, AV.dead, AV.dead, AV.dead]), (1, Ent.box 95 [AV.own 5]), (2, Ent.row { k := K.int IntKind.u64, T := 22, fz := false, xs := [v6, a2] }), (3, Ent.box 42 [AV.val (Value.int IntKind.i64 0), AV.val (Value.int IntKind.u64 0), AV.val (Value.int IntKind.u64 0), AV.val (Value.int IntKind.u64 0)]), (4, Ent.box 42 [AV.val (Value.int IntKind.i64 (IntKind.wrap IntKind.i64 ((↑(List.length a1) : Int) + 1))), AV.val (Value.int IntKind.u64 v6), AV.val (Value.int IntKind.u64 a2), AV.val (Value.int IntKind.u64 0)]), (5, Ent.row { k := K.int IntKind.i64, T := 3, fz := false, xs := v12 })], nx := 6 }) (contP Tryz.prog (edition_signed.fns k) k [1, 1, 1, 1, 1, 0, 184326, 1, 0] [] edition_signed.pl (finK Tryz.prog (edition_signed.s0) Tryz.f43.results.toList))
noncomputable def edition_signed.j0 (k : Nat)  (a0 : Int) (a1 : List (Int × Int × Int × Int)) (a2 : Int) (v6 : Int) : Option (Int × Int × Int × Int) :=
  joinK (fun s_ => execP Tryz.prog (edition_signed.fns k) k (plC [1, 1, 1] edition_signed.pl) s_ (contP Tryz.prog (edition_signed.fns k) k [1, 1, 1] [] edition_signed.pl (finK Tryz.prog (edition_signed.s0) Tryz.f43.results.toList))) ({ tmps := [AV.val (Value.int IntKind.u64 a0)] ++ dz 5 ++ [AV.ptr 0 0, AV.ptr 1 0] ++ dz 34, ents := [(0, Ent.box 42 [AV.val (Value.int IntKind.i64 0), AV.val (Value.int IntKind.u64 0), AV.val (Value.int IntKind.u64 0), AV.val (Value.int IntKind.u64 0)]), (1, Ent.box 42 [AV.val (Value.int IntKind.i64 (IntKind.wrap IntKind.i64 ((↑(List.length a1) : Int) + 1))), AV.val (Value.int IntKind.u64 v6), AV.val (Value.int IntKind.u64 a2), AV.val (Value.int IntKind.u64 0)])], nx := 2 })
theorem edition_signed.l0_succ (n0 k : Nat)  (a0 : Int) (a1 : List (Int × Int × Int × Int)) (a2 : Int) (v6 : Int) (v1 : Int) (v12 : List Int) : edition_signed.l0 (n0 + 1) k  a0 a1 a2 v6 (v1) (v12) = (if (decide (v1 < (↑(List.length [v6, a2]) : Int))) = true then (if 0 ≤ v1 then (if v1 < (↑(List.length [v6, a2]) : Int) then (if (List.length v12 + List.length [IntKind.wrap IntKind.i64 (List.getD [v6, a2] (Int.toNat v1) (Int.ofNat 0))]) * 8 ≤ 140737488355328 then (edition_signed.l0 n0 k  a0 a1 a2 v6 (IntKind.wrap IntKind.i64 (v1 + 1)) (v12 ++ [IntKind.wrap IntKind.i64 (List.getD [v6, a2] (Int.toNat v1) (Int.ofNat 0))])) else none) else none) else none) else (Option.bind (seal_Tag.m k a0 v12) fun (r110 : Int) => some ((IntKind.wrap IntKind.i64 ((↑(List.length a1) : Int) + 1), v6, a2, r110)))) := by kernel_rfl
theorem edition_signed.j0_eq (k : Nat)  (a0 : Int) (a1 : List (Int × Int × Int × Int)) (a2 : Int) (v6 : Int) : edition_signed.j0 k  a0 a1 a2 (v6) = (edition_signed.l0 k k  a0 a1 a2 v6 (0) ([IntKind.wrap IntKind.i64 ((↑(List.length a1) : Int) + 1)])) := by
  unfold edition_signed.j0
  rw [joinK_eq]
  kernel_rfl
noncomputable def edition_signed.m0 (k : Nat) (a0 : Int) (a1 : List (Int × Int × Int × Int)) (a2 : Int) : Option (Int × Int × Int × Int) :=
  execFI Tryz.prog (edition_signed.fns k) edition_signed.lay edition_signed.ann k (edition_signed.s0) 42 Tryz.f43.results.toList (Go.Vx.bodyOf Tryz.f43) (a0, a1, a2)
noncomputable def edition_signed.m : (Nat) → (Int) → (List (Int × Int × Int × Int)) → (Int) → Option (Int × Int × Int × Int) := hide edition_signed.m0
theorem edition_signed.m_hid : edition_signed.m = edition_signed.m0 := hide_eq _
theorem edition_signed.m_eq (k : Nat) (a0 : Int) (a1 : List (Int × Int × Int × Int)) (a2 : Int) : edition_signed.m k a0 a1 a2 = (if (decide ((↑(List.length a1) : Int) > 0)) = true then (if 0 ≤ IntKind.wrap IntKind.i64 ((↑(List.length a1) : Int) - 1) then (if IntKind.wrap IntKind.i64 ((↑(List.length a1) : Int) - 1) < (↑(List.length a1) : Int) then (Option.bind (edition_Digest.m k ((List.getD a1 (Int.toNat (IntKind.wrap IntKind.i64 ((↑(List.length a1) : Int) - 1))) (Int.ofNat 0, Int.ofNat 0, Int.ofNat 0, Int.ofNat 0)).fst, (List.getD a1 (Int.toNat (IntKind.wrap IntKind.i64 ((↑(List.length a1) : Int) - 1))) (Int.ofNat 0, Int.ofNat 0, Int.ofNat 0, Int.ofNat 0)).snd.fst, (List.getD a1 (Int.toNat (IntKind.wrap IntKind.i64 ((↑(List.length a1) : Int) - 1))) (Int.ofNat 0, Int.ofNat 0, Int.ofNat 0, Int.ofNat 0)).snd.snd.fst, (List.getD a1 (Int.toNat (IntKind.wrap IntKind.i64 ((↑(List.length a1) : Int) - 1))) (Int.ofNat 0, Int.ofNat 0, Int.ofNat 0, Int.ofNat 0)).snd.snd.snd)) fun (r128 : Int) => (edition_signed.j0 k  a0 a1 a2 (r128))) else none) else none) else (edition_signed.j0 k  a0 a1 a2 (0))) := by
  rw [edition_signed.m_hid]
  kernel_rfl
noncomputable def edition_signed.sp (k : Nat) : Go.Vx.Spec := edition_signed.s0.runs fun (x : edition_signed.s0.argK.T) => edition_signed.m k x.1 x.2.1 x.2.2
theorem edition_signed.good (k : Nat) : Go.Vx.Good Tryz.prog 43 (edition_signed.sp k) := Go.Vx.good_runsI Tryz.func43 (show Tryz.f43.body = some (Go.Vx.bodyOf Tryz.f43) by kernel_rfl) (by kernel_rfl) (by kernel_rfl) (edition_signed.fns_good k) edition_signed.lay_good (by
  intro x r h
  have h : edition_signed.m k x.1 x.2.1 x.2.2 = some r := h
  rw [edition_signed.m_hid] at h
  exact h)
noncomputable def edition_Check.s0 : Go.Vx.Spec := ⟨[none, none], (.pair (K.int IntKind.u64) (K.slice (K.pair (K.int IntKind.i64) (K.pair (K.int IntKind.u64) (K.pair (K.int IntKind.u64) (K.int IntKind.u64)))))), [.im (K.int IntKind.i64)], .one (none), false, fun _ => none⟩
noncomputable def edition_Check.fns (k : Nat) : Go.Vx.Fns := [(43, edition_signed.sp k)]
theorem edition_Check.fns_good (k : Nat) : (edition_Check.fns k).good Tryz.prog := (Go.Vx.Fns.good_cons (edition_signed.good k) Go.Vx.Fns.good_nil)
def edition_Check.ann : List (Nat × Ann) := [(1000004, ⟨rg [(2, 8), (13, 14)], []⟩)]
noncomputable def edition_Check.lay : Lay := .nil
theorem edition_Check.lay_good : edition_Check.lay.good Tryz.prog := True.intro
noncomputable def edition_Check.pl : Pl := ⟨0, edition_Check.lay, edition_Check.ann, (Go.Vx.bodyOf Tryz.f15)⟩
noncomputable def edition_Check.l0 (n_ k : Nat)  (a0 : Int) (a1 : List (Int × Int × Int × Int)) (v4 : Int) : Option (Int) :=
  loopK n_ (execP Tryz.prog (edition_Check.fns k) k (plC [1, 1, 0, 1, 0, 0] edition_Check.pl)) (nmP (plC [1, 1, 0, 1, 0, 0] edition_Check.pl)) ({ tmps := [AV.val (Value.int IntKind.u64 a0), AV.sh (K.pair (K.int IntKind.i64) (K.pair (K.int IntKind.u64) (K.pair (K.int IntKind.u64) (K.int IntKind.u64)))) a1] ++ dz 8 ++ [AV.sh (K.pair (K.int IntKind.i64) (K.pair (K.int IntKind.u64) (K.pair (K.int IntKind.u64) (K.int IntKind.u64)))) a1, AV.val (Value.int IntKind.i64 (↑(List.length a1) : Int)), AV.val (Value.int IntKind.i64 v4)] ++ dz 14, ents := [], nx := 0 }) (contP Tryz.prog (edition_Check.fns k) k [1, 1, 0, 1, 0] [] edition_Check.pl (finK Tryz.prog (edition_Check.s0) Tryz.f15.results.toList))
theorem edition_Check.l0_succ (n0 k : Nat)  (a0 : Int) (a1 : List (Int × Int × Int × Int)) (v4 : Int) : edition_Check.l0 (n0 + 1) k  a0 a1 (v4) = (if (decide (v4 < (↑(List.length a1) : Int))) = true then (if 0 ≤ v4 then (if v4 < (↑(List.length a1) : Int) then (if 0 ≤ v4 then (if v4 ≤ (↑(List.length a1) : Int) then (Option.bind (edition_signed.m k a0 (List.take (Int.toNat v4) a1) (List.getD a1 (Int.toNat v4) (Int.ofNat 0, Int.ofNat 0, Int.ofNat 0, Int.ofNat 0)).snd.snd.fst) fun (r82 : Int × Int × Int × Int) => (if (!((List.getD a1 (Int.toNat v4) (Int.ofNat 0, Int.ofNat 0, Int.ofNat 0, Int.ofNat 0)).fst == r82.fst && ((List.getD a1 (Int.toNat v4) (Int.ofNat 0, Int.ofNat 0, Int.ofNat 0, Int.ofNat 0)).snd.fst == r82.snd.fst && ((List.getD a1 (Int.toNat v4) (Int.ofNat 0, Int.ofNat 0, Int.ofNat 0, Int.ofNat 0)).snd.snd.fst == r82.snd.snd.fst && (List.getD a1 (Int.toNat v4) (Int.ofNat 0, Int.ofNat 0, Int.ofNat 0, Int.ofNat 0)).snd.snd.snd == r82.snd.snd.snd)))) = true then some (480) else (edition_Check.l0 n0 k  a0 a1 (IntKind.wrap IntKind.i64 (v4 + 1))))) else none) else none) else none) else none) else some (0)) := by kernel_rfl
noncomputable def edition_Check.m0 (k : Nat) (a0 : Int) (a1 : List (Int × Int × Int × Int)) : Option (Int) :=
  execFI Tryz.prog (edition_Check.fns k) edition_Check.lay edition_Check.ann k (edition_Check.s0) 27 Tryz.f15.results.toList (Go.Vx.bodyOf Tryz.f15) (a0, a1)
noncomputable def edition_Check.m : (Nat) → (Int) → (List (Int × Int × Int × Int)) → Option (Int) := hide edition_Check.m0
theorem edition_Check.m_hid : edition_Check.m = edition_Check.m0 := hide_eq _
theorem edition_Check.m_eq (k : Nat) (a0 : Int) (a1 : List (Int × Int × Int × Int)) : edition_Check.m k a0 a1 = (if (decide ((↑(List.length a1) : Int) > 60)) = true then some (480) else (edition_Check.l0 k k  a0 a1 (0))) := by
  rw [edition_Check.m_hid]
  kernel_rfl
noncomputable def edition_Check.sp (k : Nat) : Go.Vx.Spec := edition_Check.s0.runs fun (x : edition_Check.s0.argK.T) => edition_Check.m k x.1 x.2
theorem edition_Check.good (k : Nat) : Go.Vx.Good Tryz.prog 15 (edition_Check.sp k) := Go.Vx.good_runsI Tryz.func15 (show Tryz.f15.body = some (Go.Vx.bodyOf Tryz.f15) by kernel_rfl) (by kernel_rfl) (by kernel_rfl) (edition_Check.fns_good k) edition_Check.lay_good (by
  intro x r h
  have h : edition_Check.m k x.1 x.2 = some r := h
  rw [edition_Check.m_hid] at h
  exact h)
noncomputable def edition_Leaf.s0 : Go.Vx.Spec := ⟨[some 3], (K.pair (K.int IntKind.i64) (K.pair (K.int IntKind.i64) (K.slice (K.int IntKind.u64)))), [.im (K.int IntKind.u64)], .one (none), false, fun _ => none⟩
noncomputable def edition_Leaf.fns (k : Nat) : Go.Vx.Fns := [(36, cWords.sp k)]
theorem edition_Leaf.fns_good (k : Nat) : (edition_Leaf.fns k).good Tryz.prog := (Go.Vx.Fns.good_cons (cWords.good k) Go.Vx.Fns.good_nil)
def edition_Leaf.ann : List (Nat × Ann) := []
def edition_Leaf.ann1 : List (Nat × Ann) := [(1000001, ⟨rg [(1, 5), (9, 13)], []⟩)]
noncomputable def edition_Leaf.lay : Lay := (.cons 2 3 45 [0, 1, 2, 4, 5, 6, 7, 8, 9, 10, 11, 12, 13, 14, 15] Tryz.f45 edition_Leaf.ann1 .nil .nil)
theorem edition_Leaf.lay_good : edition_Leaf.lay.good Tryz.prog := ⟨⟨Tryz.func45, by kernel_rfl, by kernel_rfl⟩, True.intro, True.intro⟩
noncomputable def edition_Leaf.pl : Pl := ⟨0, edition_Leaf.lay, edition_Leaf.ann, (Go.Vx.bodyOf Tryz.f22)⟩
noncomputable def edition_Leaf.l0 (n_ k : Nat)  (a0 : Int × Int × List Int) (v2 : Int) (v3 : List Int) : Option (Int) :=
  loopK n_ (execP Tryz.prog (edition_Leaf.fns k) k (plC [1, 1, 0, 184323, 1, 0, 0] edition_Leaf.pl)) (nmP (plC [1, 1, 0, 184323, 1, 0, 0] edition_Leaf.pl)) ({ tmps := [AV.ptr 1 0] ++ dz 5 ++ [AV.sh (K.int IntKind.u64) a0.snd.snd, AV.val (Value.int IntKind.i64 (↑(List.length a0.snd.snd) : Int)), AV.val (Value.int IntKind.i64 v2)] ++ dz 13, ents := [(0, Ent.ghost 0 [AV.dead, AV.dead, AV.dead, AV.ptr 1 0, AV.dead, AV.dead, AV.dead, AV.dead, AV.dead, AV.dead, AV.dead, AV.dead, AV.dead, AV.dead, AV.dead, AV.dead]), (1, Ent.box 95 [AV.own 2]), (2, Ent.row { k := K.int IntKind.i64, T := 3, fz := false, xs := v3 })], nx := 3 }) (contP Tryz.prog (edition_Leaf.fns k) k [1, 1, 0, 184323, 1, 0] [] edition_Leaf.pl (finK Tryz.prog (edition_Leaf.s0) Tryz.f22.results.toList))
theorem edition_Leaf.l0_succ (n0 k : Nat)  (a0 : Int × Int × List Int) (v2 : Int) (v3 : List Int) : edition_Leaf.l0 (n0 + 1) k  a0 (v2) (v3) = (if (decide (v2 < (↑(List.length a0.snd.snd) : Int))) = true then (if 0 ≤ v2 then (if v2 < (↑(List.length a0.snd.snd) : Int) then (if (List.length v3 + List.length [IntKind.wrap IntKind.i64 (List.getD a0.snd.snd (Int.toNat v2) (Int.ofNat 0))]) * 8 ≤ 140737488355328 then (edition_Leaf.l0 n0 k  a0 (IntKind.wrap IntKind.i64 (v2 + 1)) (v3 ++ [IntKind.wrap IntKind.i64 (List.getD a0.snd.snd (Int.toNat v2) (Int.ofNat 0))])) else none) else none) else none) else (Option.bind (cWords.h v3) fun (r84 : Int) => some (r84))) := by kernel_rfl
noncomputable def edition_Leaf.m0 (k : Nat) (a0 : Int × Int × List Int) : Option (Int) :=
  execFI Tryz.prog (edition_Leaf.fns k) edition_Leaf.lay edition_Leaf.ann k (edition_Leaf.s0) 16 Tryz.f22.results.toList (Go.Vx.bodyOf Tryz.f22) a0
noncomputable def edition_Leaf.m : (Nat) → (Int × Int × List Int) → Option (Int) := hide edition_Leaf.m0
theorem edition_Leaf.m_hid : edition_Leaf.m = edition_Leaf.m0 := hide_eq _
theorem edition_Leaf.m_eq (k : Nat) (a0 : Int × Int × List Int) : edition_Leaf.m k a0 = (edition_Leaf.l0 k k  a0 (0) ([a0.fst, a0.snd.fst])) := by
  rw [edition_Leaf.m_hid]
  kernel_rfl
noncomputable def edition_Leaf.sp (k : Nat) : Go.Vx.Spec := edition_Leaf.s0.runs fun (x : edition_Leaf.s0.argK.T) => edition_Leaf.m k x
theorem edition_Leaf.good (k : Nat) : Go.Vx.Good Tryz.prog 22 (edition_Leaf.sp k) := Go.Vx.good_runsI Tryz.func22 (show Tryz.f22.body = some (Go.Vx.bodyOf Tryz.f22) by kernel_rfl) (by kernel_rfl) (by kernel_rfl) (edition_Leaf.fns_good k) edition_Leaf.lay_good (by
  intro x r h
  have h : edition_Leaf.m k x = some r := h
  rw [edition_Leaf.m_hid] at h
  exact h)
noncomputable def edition_leaves.s0 : Go.Vx.Spec := ⟨[some 3], (K.pair (K.int IntKind.i64) (K.pair (K.int IntKind.i64) (K.slice (K.pair (K.int IntKind.i64) (K.pair (K.int IntKind.i64) (K.slice (K.int IntKind.u64))))))), [.own ((K.int IntKind.u64)) 22], .one (none), false, fun _ => none⟩
noncomputable def edition_leaves.fns (k : Nat) : Go.Vx.Fns := [(22, edition_Leaf.sp k)]
theorem edition_leaves.fns_good (k : Nat) : (edition_leaves.fns k).good Tryz.prog := (Go.Vx.Fns.good_cons (edition_Leaf.good k) Go.Vx.Fns.good_nil)
def edition_leaves.ann : List (Nat × Ann) := [(1000003, ⟨rg [(0, 3), (4, 3), (10, 10)], [(3, none, K.int IntKind.u64, some 22)]⟩)]
noncomputable def edition_leaves.lay : Lay := .nil
theorem edition_leaves.lay_good : edition_leaves.lay.good Tryz.prog := True.intro
noncomputable def edition_leaves.pl : Pl := ⟨0, edition_leaves.lay, edition_leaves.ann, (Go.Vx.bodyOf Tryz.f42)⟩
noncomputable def edition_leaves.l0 (n_ k : Nat)  (a0 : Int × Int × List (Int × Int × List Int)) (v2 : Int) (v3 : List Int) : Option (List Int) :=
  loopK n_ (execP Tryz.prog (edition_leaves.fns k) k (plC [1, 1, 0, 1, 0, 0] edition_leaves.pl)) (nmP (plC [1, 1, 0, 1, 0, 0] edition_leaves.pl)) ({ tmps := dz 3 ++ [AV.own 0] ++ dz 3 ++ [AV.sh (K.pair (K.int IntKind.i64) (K.pair (K.int IntKind.i64) (K.slice (K.int IntKind.u64)))) a0.snd.snd, AV.val (Value.int IntKind.i64 (↑(List.length a0.snd.snd) : Int)), AV.val (Value.int IntKind.i64 v2)] ++ dz 10, ents := [(0, Ent.row { k := K.int IntKind.u64, T := 22, fz := false, xs := v3 })], nx := 1 }) (contP Tryz.prog (edition_leaves.fns k) k [1, 1, 0, 1, 0] [] edition_leaves.pl (finK Tryz.prog (edition_leaves.s0) Tryz.f42.results.toList))
theorem edition_leaves.l0_succ (n0 k : Nat)  (a0 : Int × Int × List (Int × Int × List Int)) (v2 : Int) (v3 : List Int) : edition_leaves.l0 (n0 + 1) k  a0 (v2) (v3) = (if (decide (v2 < (↑(List.length a0.snd.snd) : Int))) = true then (if 0 ≤ v2 then (if v2 < (↑(List.length a0.snd.snd) : Int) then (Option.bind (edition_Leaf.m k ((List.getD a0.snd.snd (Int.toNat v2) (Int.ofNat 0, Int.ofNat 0, [])).fst, (List.getD a0.snd.snd (Int.toNat v2) (Int.ofNat 0, Int.ofNat 0, [])).snd.fst, (List.getD a0.snd.snd (Int.toNat v2) (Int.ofNat 0, Int.ofNat 0, [])).snd.snd)) fun (r56 : Int) => (if (List.length v3 + List.length [r56]) * 8 ≤ 140737488355328 then (edition_leaves.l0 n0 k  a0 (IntKind.wrap IntKind.i64 (v2 + 1)) (v3 ++ [r56])) else none)) else none) else none) else some (v3)) := by kernel_rfl
noncomputable def edition_leaves.m0 (k : Nat) (a0 : Int × Int × List (Int × Int × List Int)) : Option (List Int) :=
  execFI Tryz.prog (edition_leaves.fns k) edition_leaves.lay edition_leaves.ann k (edition_leaves.s0) 20 Tryz.f42.results.toList (Go.Vx.bodyOf Tryz.f42) a0
noncomputable def edition_leaves.m : (Nat) → (Int × Int × List (Int × Int × List Int)) → Option (List Int) := hide edition_leaves.m0
theorem edition_leaves.m_hid : edition_leaves.m = edition_leaves.m0 := hide_eq _
theorem edition_leaves.m_eq (k : Nat) (a0 : Int × Int × List (Int × Int × List Int)) : edition_leaves.m k a0 = (edition_leaves.l0 k k  a0 (0) ([])) := by
  rw [edition_leaves.m_hid]
  kernel_rfl
noncomputable def edition_leaves.sp (k : Nat) : Go.Vx.Spec := edition_leaves.s0.runs fun (x : edition_leaves.s0.argK.T) => edition_leaves.m k x
theorem edition_leaves.good (k : Nat) : Go.Vx.Good Tryz.prog 42 (edition_leaves.sp k) := Go.Vx.good_runsI Tryz.func42 (show Tryz.f42.body = some (Go.Vx.bodyOf Tryz.f42) by kernel_rfl) (by kernel_rfl) (by kernel_rfl) (edition_leaves.fns_good k) edition_leaves.lay_good (by
  intro x r h
  have h : edition_leaves.m k x = some r := h
  rw [edition_leaves.m_hid] at h
  exact h)
noncomputable def edition_root.s0 : Go.Vx.Spec := ⟨[none], (K.slice (K.int IntKind.u64)), [.im (K.int IntKind.u64)], .one (none), false, fun _ => none⟩
noncomputable def edition_root.fns (k : Nat) : Go.Vx.Fns := [(68, cRoot.sp k), (35, seal_Join.sp k)]
theorem edition_root.fns_good (k : Nat) : (edition_root.fns k).good Tryz.prog := (Go.Vx.Fns.good_cons (cRoot.good k) (Go.Vx.Fns.good_cons (seal_Join.good k) Go.Vx.Fns.good_nil))
def edition_root.ann : List (Nat × Ann) := []
noncomputable def edition_root.lay : Lay := .nil
theorem edition_root.lay_good : edition_root.lay.good Tryz.prog := True.intro
noncomputable def edition_root.pl : Pl := ⟨0, edition_root.lay, edition_root.ann, (Go.Vx.bodyOf Tryz.f41)⟩
noncomputable def edition_root.m0 (k : Nat) (a0 : List Int) : Option (Int) :=
  execFI Tryz.prog (edition_root.fns k) edition_root.lay edition_root.ann k (edition_root.s0) 9 Tryz.f41.results.toList (Go.Vx.bodyOf Tryz.f41) a0
noncomputable def edition_root.m : (Nat) → (List Int) → Option (Int) := hide edition_root.m0
theorem edition_root.m_hid : edition_root.m = edition_root.m0 := hide_eq _
theorem edition_root.m_eq (k : Nat) (a0 : List Int) : edition_root.m k a0 = (Option.bind (cRoot.h k a0) fun (r3 : Int) => (Option.bind (seal_Join.m k r3 (IntKind.wrap IntKind.u64 (↑(List.length a0) : Int))) fun (r8 : Int) => some (r8))) := by
  rw [edition_root.m_hid]
  kernel_rfl
noncomputable def edition_root.sp (k : Nat) : Go.Vx.Spec := edition_root.s0.runs fun (x : edition_root.s0.argK.T) => edition_root.m k x
theorem edition_root.good (k : Nat) : Go.Vx.Good Tryz.prog 41 (edition_root.sp k) := Go.Vx.good_runsI Tryz.func41 (show Tryz.f41.body = some (Go.Vx.bodyOf Tryz.f41) by kernel_rfl) (by kernel_rfl) (by kernel_rfl) (edition_root.fns_good k) edition_root.lay_good (by
  intro x r h
  have h : edition_root.m k x = some r := h
  rw [edition_root.m_hid] at h
  exact h)
noncomputable def edition_Root.s0 : Go.Vx.Spec := ⟨[some 3], (K.pair (K.int IntKind.i64) (K.pair (K.int IntKind.i64) (K.slice (K.pair (K.int IntKind.i64) (K.pair (K.int IntKind.i64) (K.slice (K.int IntKind.u64))))))), [.im (K.int IntKind.u64)], .one (none), false, fun _ => none⟩
noncomputable def edition_Root.fns (k : Nat) : Go.Vx.Fns := [(42, edition_leaves.sp k), (41, edition_root.sp k)]
theorem edition_Root.fns_good (k : Nat) : (edition_Root.fns k).good Tryz.prog := (Go.Vx.Fns.good_cons (edition_leaves.good k) (Go.Vx.Fns.good_cons (edition_root.good k) Go.Vx.Fns.good_nil))
def edition_Root.ann : List (Nat × Ann) := []
noncomputable def edition_Root.lay : Lay := .nil
theorem edition_Root.lay_good : edition_Root.lay.good Tryz.prog := True.intro
noncomputable def edition_Root.pl : Pl := ⟨0, edition_Root.lay, edition_Root.ann, (Go.Vx.bodyOf Tryz.f14)⟩
noncomputable def edition_Root.m0 (k : Nat) (a0 : Int × Int × List (Int × Int × List Int)) : Option (Int) :=
  execFI Tryz.prog (edition_Root.fns k) edition_Root.lay edition_Root.ann k (edition_Root.s0) 6 Tryz.f14.results.toList (Go.Vx.bodyOf Tryz.f14) a0
noncomputable def edition_Root.m : (Nat) → (Int × Int × List (Int × Int × List Int)) → Option (Int) := hide edition_Root.m0
theorem edition_Root.m_hid : edition_Root.m = edition_Root.m0 := hide_eq _
theorem edition_Root.m_eq (k : Nat) (a0 : Int × Int × List (Int × Int × List Int)) : edition_Root.m k a0 = (Option.bind (edition_leaves.m k (a0.fst, a0.snd.fst, a0.snd.snd)) fun (r4 : List Int) => (Option.bind (edition_root.m k r4) fun (r6 : Int) => some (r6))) := by
  rw [edition_Root.m_hid]
  kernel_rfl
noncomputable def edition_Root.sp (k : Nat) : Go.Vx.Spec := edition_Root.s0.runs fun (x : edition_Root.s0.argK.T) => edition_Root.m k x
theorem edition_Root.good (k : Nat) : Go.Vx.Good Tryz.prog 14 (edition_Root.sp k) := Go.Vx.good_runsI Tryz.func14 (show Tryz.f14.body = some (Go.Vx.bodyOf Tryz.f14) by kernel_rfl) (by kernel_rfl) (by kernel_rfl) (edition_Root.fns_good k) edition_Root.lay_good (by
  intro x r h
  have h : edition_Root.m k x = some r := h
  rw [edition_Root.m_hid] at h
  exact h)
end Go.Proofs.YtjnpcpnjcieheaaGreat.V48
