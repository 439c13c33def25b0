/- Functions as the abstract executor tells them: equations, and contracts; printed by a tool. -/
import Derived.Test.YtakimeeakmlemaaX22E
import Derived.Test.YtakimeeakmlemaaX22P
import Derived.Test.YtakimeeakmlemaaX22R
import Derived.Test.YtakimeeakmlemaaX22L
namespace Go.Proofs.Ytakimeeakmlemaa.V22
open Go Go.Vx Go.Proofs
set_option linter.unusedVariables false
set_option maxRecDepth 100000
noncomputable def plexuslaw22_LocalHilbert.s0 : Go.Vx.Spec := ⟨[some 3, none, none], (.pair (K.pair (K.int IntKind.i8) (K.pair (K.int IntKind.i8) (K.int IntKind.i8))) (.pair (K.int IntKind.u8) (K.int IntKind.i8))), [.im (K.bool)], .one (none), false, fun _ => none⟩
noncomputable def plexuslaw22_LocalHilbert.fns (k : Nat) : Go.Vx.Fns := [(9, plexuslaw22_examples.sp k), (22, plexuslaw22_primes.sp k), (25, plexusref22_Near.sp k), (26, plexuslaw22_hilbert.sp k), (16, local_Hilbert.sp k), (24, plexusref01_Prime.sp k)]
theorem plexuslaw22_LocalHilbert.fns_good (k : Nat) : (plexuslaw22_LocalHilbert.fns k).good Try.prog := (Go.Vx.Fns.good_cons (plexuslaw22_examples.good k) (Go.Vx.Fns.good_cons (plexuslaw22_primes.good k) (Go.Vx.Fns.good_cons (plexusref22_Near.good k) (Go.Vx.Fns.good_cons (plexuslaw22_hilbert.good k) (Go.Vx.Fns.good_cons (local_Hilbert.good k) (Go.Vx.Fns.good_cons (plexusref01_Prime.good k) Go.Vx.Fns.good_nil))))))
def plexuslaw22_LocalHilbert.ann : List (Nat × Ann) := [(2000020, ⟨rg [(0, 7), (8, 3), (17, 118)], []⟩), (1000015, ⟨rg [(0, 7), (8, 3), (15, 120)], []⟩), (2000013, ⟨rg [(0, 7), (8, 3), (13, 122)], []⟩), (2000007, ⟨rg [(0, 2), (4, 3), (9, 126)], []⟩)]
noncomputable def plexuslaw22_LocalHilbert.lay : Lay := .nil
theorem plexuslaw22_LocalHilbert.lay_good : plexuslaw22_LocalHilbert.lay.good Try.prog := True.intro
noncomputable def plexuslaw22_LocalHilbert.pl : Pl := ⟨0, plexuslaw22_LocalHilbert.lay, plexuslaw22_LocalHilbert.ann, (Go.Vx.bodyOf Try.f6)⟩
noncomputable def plexuslaw22_LocalHilbert.j2 (k : Nat) (n0 : Nat) (r3 : Bool) (r38 : Int) (r44 : Int) (v3 : Int) (v4 : Int) (r417 : Int × Int)  : Option (Bool) :=
  joinK (fun s_ => execP Try.prog (plexuslaw22_LocalHilbert.fns k) k (plC [1, 1, 1, 1, 1, 1, 1, 1, 1, 1, 0, 1, 0, 0, 1, 0, 0, 1, 1] plexuslaw22_LocalHilbert.pl) s_ (contP Try.prog (plexuslaw22_LocalHilbert.fns k) k [1, 1, 1, 1, 1, 1, 1, 1, 1, 1, 0, 1, 0, 0, 1, 0, 0, 1, 1] [n0] plexuslaw22_LocalHilbert.pl (finK Try.prog (plexuslaw22_LocalHilbert.s0) Try.f6.results.toList))) ({ tmps := dz 7 ++ [AV.val (Value.bool r3)] ++ dz 3 ++ [AV.val (Value.int IntKind.i64 r38), AV.val (Value.int IntKind.i64 r44), AV.val (Value.int IntKind.i64 v3), AV.val (Value.int IntKind.i64 v4), AV.val (Value.int IntKind.i64 r417.fst), AV.val (Value.int IntKind.i64 r417.snd)] ++ dz 118, ents := [], nx := 0 })
noncomputable def plexuslaw22_LocalHilbert.l0 (n_ k : Nat)  (r3 : Bool) (r38 : Int) (r44 : Int) (v3 : Int) (v4 : Int) : Option (Bool) :=
  loopK n_ (execP Try.prog (plexuslaw22_LocalHilbert.fns k) k (plC [1, 1, 1, 1, 1, 1, 1, 1, 1, 1, 0, 1, 0, 0] plexuslaw22_LocalHilbert.pl)) (nmP (plC [1, 1, 1, 1, 1, 1, 1, 1, 1, 1, 0, 1, 0, 0] plexuslaw22_LocalHilbert.pl)) ({ tmps := dz 7 ++ [AV.val (Value.bool r3)] ++ dz 3 ++ [AV.val (Value.int IntKind.i64 r38), AV.val (Value.int IntKind.i64 r44), AV.val (Value.int IntKind.i64 v3), AV.val (Value.int IntKind.i64 v4)] ++ dz 120, ents := [], nx := 0 }) (contP Try.prog (plexuslaw22_LocalHilbert.fns k) k [1, 1, 1, 1, 1, 1, 1, 1, 1, 1, 0, 1, 0] [] plexuslaw22_LocalHilbert.pl (finK Try.prog (plexuslaw22_LocalHilbert.s0) Try.f6.results.toList))
noncomputable def plexuslaw22_LocalHilbert.j1 (k : Nat)  (r3 : Bool) (r38 : Int) (r44 : Int)  : Option (Bool) :=
  joinK (fun s_ => execP Try.prog (plexuslaw22_LocalHilbert.fns k) k (plC [1, 1, 1, 1, 1, 1, 1, 1, 1] plexuslaw22_LocalHilbert.pl) s_ (contP Try.prog (plexuslaw22_LocalHilbert.fns k) k [1, 1, 1, 1, 1, 1, 1, 1, 1] [] plexuslaw22_LocalHilbert.pl (finK Try.prog (plexuslaw22_LocalHilbert.s0) Try.f6.results.toList))) ({ tmps := dz 7 ++ [AV.val (Value.bool r3)] ++ dz 3 ++ [AV.val (Value.int IntKind.i64 r38), AV.val (Value.int IntKind.i64 r44)] ++ dz 122, ents := [], nx := 0 })
noncomputable def plexuslaw22_LocalHilbert.j0 (k : Nat)  (a0 : Int × Int × Int) (a2 : Int) (r3 : Bool) (v2 : Int) : Option (Bool) :=
  joinK (fun s_ => execP Try.prog (plexuslaw22_LocalHilbert.fns k) k (plC [1, 1, 1, 1, 1] plexuslaw22_LocalHilbert.pl) s_ (contP Try.prog (plexuslaw22_LocalHilbert.fns k) k [1, 1, 1, 1, 1] [] plexuslaw22_LocalHilbert.pl (finK Try.prog (plexuslaw22_LocalHilbert.s0) Try.f6.results.toList))) ({ tmps := dz 2 ++ [AV.val (Value.int IntKind.i8 a2), AV.ptr 0 0] ++ dz 3 ++ [AV.val (Value.bool r3), AV.val (Value.int IntKind.i64 v2)] ++ dz 126, ents := [(0, Ent.box 48 [AV.val (Value.int IntKind.i8 a0.fst), AV.val (Value.int IntKind.i8 a0.snd.fst), AV.val (Value.int IntKind.i8 a0.snd.snd)])], nx := 1 })
theorem plexuslaw22_LocalHilbert.j2_eq (k : Nat) (n0 : Nat) (r3 : Bool) (r38 : Int) (r44 : Int) (v3 : Int) (v4 : Int) (r417 : Int × Int)  : plexuslaw22_LocalHilbert.j2 k n0 r3 r38 r44 v3 v4 r417  = (if (r417.snd == 0) = true then (plexuslaw22_LocalHilbert.l0 n0 k  r3 r38 r44 (IntKind.wrap IntKind.i64 (v3 * r417.fst)) (IntKind.wrap IntKind.i64 (v4 + 1))) else (plexuslaw22_LocalHilbert.l0 n0 k  r3 r38 r44 (v3) (IntKind.wrap IntKind.i64 (v4 + 1)))) := by
  unfold plexuslaw22_LocalHilbert.j2
  rw [joinK_eq]
  kernel_rfl
theorem plexuslaw22_LocalHilbert.l0_succ (n0 k : Nat)  (r3 : Bool) (r38 : Int) (r44 : Int) (v3 : Int) (v4 : Int) : plexuslaw22_LocalHilbert.l0 (n0 + 1) k  r3 r38 r44 (v3) (v4) = (if (decide (v4 ≤ 200)) = true then (Option.bind (local_Hilbert.m k r38 r44 v4) fun (r417 : Int × Int) => (if (v4 == 0) = true then (if (!(r417.snd == 0) == true) = true then some (false) else (plexuslaw22_LocalHilbert.j2 k n0 r3 r38 r44 v3 v4 r417 )) else (Option.bind (plexusref01_Prime.m k v4) fun (r473 : Bool) => (if (!(r417.snd == 0) == r473) = true then some (false) else (plexuslaw22_LocalHilbert.j2 k n0 r3 r38 r44 v3 v4 r417 ))))) else (if (v3 == 1) = true then some (r3) else some (false))) := by kernel_rfl
theorem plexuslaw22_LocalHilbert.j1_eq (k : Nat)  (r3 : Bool) (r38 : Int) (r44 : Int)  : plexuslaw22_LocalHilbert.j1 k  r3 r38 r44  = (plexuslaw22_LocalHilbert.l0 k k  r3 r38 r44 (1) (0)) := by
  unfold plexuslaw22_LocalHilbert.j1
  rw [joinK_eq]
  kernel_rfl
theorem plexuslaw22_LocalHilbert.j0_eq (k : Nat)  (a0 : Int × Int × Int) (a2 : Int) (r3 : Bool) (v2 : Int) : plexuslaw22_LocalHilbert.j0 k  a0 a2 r3 (v2) = (Option.bind (plexusref22_Near.m k (divF BinOp.rem IntKind.i8 a0.fst 15)) fun (r25 : Int) => (Option.bind (plexusref22_Near.m k (divF BinOp.rem IntKind.i8 a0.snd.fst 15)) fun (r33 : Int) => (Option.bind (plexusref22_Near.m k a2) fun (r38 : Int) => (Option.bind (plexusref22_Near.m k a0.snd.snd) fun (r44 : Int) => (Option.bind (plexuslaw22_hilbert.m k r25 r38 v2) fun (r51 : Int) => (Option.bind (plexuslaw22_hilbert.m k r33 r38 v2) fun (r56 : Int) => (Option.bind (plexuslaw22_hilbert.m k (IntKind.wrap IntKind.i64 (r25 * r33)) r38 v2) fun (r64 : Int) => (if (IntKind.wrap IntKind.i64 (r51 * r56) != r64) = true then some (false) else (Option.bind (plexuslaw22_hilbert.m k (IntKind.wrap IntKind.i64 (r25 * r33)) r38 v2) fun (r125 : Int) => (Option.bind (plexuslaw22_hilbert.m k r38 (IntKind.wrap IntKind.i64 (r25 * r33)) v2) fun (r138 : Int) => (if (r125 != r138) = true then some (false) else (Option.bind (plexuslaw22_hilbert.m k (IntKind.wrap IntKind.i64 (r25 * r33)) r38 v2) fun (r173 : Int) => (if (r173 == 0) = true then some (false) else (Option.bind (plexuslaw22_hilbert.m k (IntKind.wrap IntKind.i64 (r25 * r25)) r38 v2) fun (r499 : Int) => (if (r499 != 1) = true then some (false) else (Option.bind (plexuslaw22_hilbert.m k r44 (IntKind.wrap IntKind.i64 (0 - r44)) v2) fun (r544 : Int) => (if (r544 != 1) = true then some (false) else (if (r44 != 1) = true then (Option.bind (plexuslaw22_hilbert.m k r44 (IntKind.wrap IntKind.i64 (1 - r44)) v2) fun (r583 : Int) => (if (r583 != 1) = true then some (false) else (plexuslaw22_LocalHilbert.j1 k  r3 r38 r44 ))) else (plexuslaw22_LocalHilbert.j1 k  r3 r38 r44 ))))))))))))))))))) := by
  unfold plexuslaw22_LocalHilbert.j0
  rw [joinK_eq]
  kernel_rfl
noncomputable def plexuslaw22_LocalHilbert.m0 (k : Nat) (a0 : Int × Int × Int) (a1 : Int) (a2 : Int) : Option (Bool) :=
  execFI Try.prog (plexuslaw22_LocalHilbert.fns k) plexuslaw22_LocalHilbert.lay plexuslaw22_LocalHilbert.ann k (plexuslaw22_LocalHilbert.s0) 135 Try.f6.results.toList (Go.Vx.bodyOf Try.f6) (a0, a1, a2)
noncomputable def plexuslaw22_LocalHilbert.m : (Nat) → (Int × Int × Int) → (Int) → (Int) → Option (Bool) := hide plexuslaw22_LocalHilbert.m0
theorem plexuslaw22_LocalHilbert.m_hid : plexuslaw22_LocalHilbert.m = plexuslaw22_LocalHilbert.m0 := hide_eq _
theorem plexuslaw22_LocalHilbert.m_eq (k : Nat) (a0 : Int × Int × Int) (a1 : Int) (a2 : Int) : plexuslaw22_LocalHilbert.m k a0 a1 a2 = (Option.bind (plexuslaw22_examples.m k) fun (r3 : Bool) => (if (!r3) = true then some (false) else (Option.bind (plexuslaw22_primes.m k a1) fun (r11 : Int) => (if (divF BinOp.rem IntKind.u8 a1 8 == 7) = true then (plexuslaw22_LocalHilbert.j0 k  a0 a2 r3 (0)) else (plexuslaw22_LocalHilbert.j0 k  a0 a2 r3 (r11)))))) := by
  rw [plexuslaw22_LocalHilbert.m_hid]
  kernel_rfl
noncomputable def plexuslaw22_LocalHilbert.sp (k : Nat) : Go.Vx.Spec := plexuslaw22_LocalHilbert.s0.runs fun (x : plexuslaw22_LocalHilbert.s0.argK.T) => plexuslaw22_LocalHilbert.m k x.1 x.2.1 x.2.2
theorem plexuslaw22_LocalHilbert.good (k : Nat) : Go.Vx.Good Try.prog 6 (plexuslaw22_LocalHilbert.sp k) := Go.Vx.good_runsI Try.func6 (show Try.f6.body = some (Go.Vx.bodyOf Try.f6) by kernel_rfl) (by kernel_rfl) (by kernel_rfl) (plexuslaw22_LocalHilbert.fns_good k) plexuslaw22_LocalHilbert.lay_good (by
  intro x r h
  have h : plexuslaw22_LocalHilbert.m k x.1 x.2.1 x.2.2 = some r := h
  rw [plexuslaw22_LocalHilbert.m_hid] at h
  exact h)
end Go.Proofs.Ytakimeeakmlemaa.V22
