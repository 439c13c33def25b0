/- Functions as the abstract executor tells them: equations, and contracts; printed by a tool. -/
import Derived.Test.YtakimeeakmlemaaX22E
namespace Go.Proofs.Ytakimeeakmlemaa.V22
open Go Go.Vx Go.Proofs
set_option linter.unusedVariables false
set_option maxRecDepth 100000
noncomputable def plexuslaw22_primes.s0 : Go.Vx.Spec := ⟨[none], (K.int IntKind.u8), [.im (K.int IntKind.i64)], .one (none), false, fun _ => none⟩
noncomputable def plexuslaw22_primes.fns (k : Nat) : Go.Vx.Fns := []
theorem plexuslaw22_primes.fns_good (k : Nat) : (plexuslaw22_primes.fns k).good Try.prog := Go.Vx.Fns.good_nil
def plexuslaw22_primes.ann : List (Nat × Ann) := []
noncomputable def plexuslaw22_primes.lay : Lay := .nil
theorem plexuslaw22_primes.lay_good : plexuslaw22_primes.lay.good Try.prog := True.intro
noncomputable def plexuslaw22_primes.pl : Pl := ⟨0, plexuslaw22_primes.lay, plexuslaw22_primes.ann, (Go.Vx.bodyOf Try.f22)⟩
noncomputable def plexuslaw22_primes.m0 (k : Nat) (a0 : Int) : Option (Int) :=
  execFI Try.prog (plexuslaw22_primes.fns k) plexuslaw22_primes.lay plexuslaw22_primes.ann k (plexuslaw22_primes.s0) 13 Try.f22.results.toList (Go.Vx.bodyOf Try.f22) a0
noncomputable def plexuslaw22_primes.m : (Nat) → (Int) → Option (Int) := hide plexuslaw22_primes.m0
theorem plexuslaw22_primes.m_hid : plexuslaw22_primes.m = plexuslaw22_primes.m0 := hide_eq _
theorem plexuslaw22_primes.m_eq (k : Nat) (a0 : Int) : plexuslaw22_primes.m k a0 = (if 0 ≤ divF BinOp.rem IntKind.i64 (IntKind.wrap IntKind.i64 a0) (↑(List.length [2, 3, 5, 7, 11, 13, 17, 19, 23, 29, 31, 37, 41, 43, 47, 53, 59, 61, 67, 71, 73, 79, 83, 89, 97]) : Int) then (if divF BinOp.rem IntKind.i64 (IntKind.wrap IntKind.i64 a0) (↑(List.length [2, 3, 5, 7, 11, 13, 17, 19, 23, 29, 31, 37, 41, 43, 47, 53, 59, 61, 67, 71, 73, 79, 83, 89, 97]) : Int) < (↑(List.length [2, 3, 5, 7, 11, 13, 17, 19, 23, 29, 31, 37, 41, 43, 47, 53, 59, 61, 67, 71, 73, 79, 83, 89, 97]) : Int) then some (List.getD [2, 3, 5, 7, 11, 13, 17, 19, 23, 29, 31, 37, 41, 43, 47, 53, 59, 61, 67, 71, 73, 79, 83, 89, 97] (Int.toNat (divF BinOp.rem IntKind.i64 (IntKind.wrap IntKind.i64 a0) (↑(List.length [2, 3, 5, 7, 11, 13, 17, 19, 23, 29, 31, 37, 41, 43, 47, 53, 59, 61, 67, 71, 73, 79, 83, 89, 97]) : Int))) (Int.ofNat 0)) else none) else none) := by
  rw [plexuslaw22_primes.m_hid]
  kernel_rfl
noncomputable def plexuslaw22_primes.sp (k : Nat) : Go.Vx.Spec := plexuslaw22_primes.s0.runs fun (x : plexuslaw22_primes.s0.argK.T) => plexuslaw22_primes.m k x
theorem plexuslaw22_primes.good (k : Nat) : Go.Vx.Good Try.prog 22 (plexuslaw22_primes.sp k) := Go.Vx.good_runsI Try.func22 (show Try.f22.body = some (Go.Vx.bodyOf Try.f22) by kernel_rfl) (by kernel_rfl) (by kernel_rfl) (plexuslaw22_primes.fns_good k) plexuslaw22_primes.lay_good (by
  intro x r h
  have h : plexuslaw22_primes.m k x = some r := h
  rw [plexuslaw22_primes.m_hid] at h
  exact h)
noncomputable def plexuslaw22_LocalLegendre.s0 : Go.Vx.Spec := ⟨[none, none, none], (.pair (K.int IntKind.u8) (.pair (K.int IntKind.i16) (K.int IntKind.i16))), [.im (K.bool)], .one (none), false, fun _ => none⟩
noncomputable def plexuslaw22_LocalLegendre.fns (k : Nat) : Go.Vx.Fns := [(9, plexuslaw22_examples.sp k), (22, plexuslaw22_primes.sp k), (10, local_Legendre.sp k), (23, plexuslaw22_legendre.sp k)]
theorem plexuslaw22_LocalLegendre.fns_good (k : Nat) : (plexuslaw22_LocalLegendre.fns k).good Try.prog := (Go.Vx.Fns.good_cons (plexuslaw22_examples.good k) (Go.Vx.Fns.good_cons (plexuslaw22_primes.good k) (Go.Vx.Fns.good_cons (local_Legendre.good k) (Go.Vx.Fns.good_cons (plexuslaw22_legendre.good k) Go.Vx.Fns.good_nil))))
def plexuslaw22_LocalLegendre.ann : List (Nat × Ann) := [(1000013, ⟨rg [(0, 1), (2, 5), (9, 2), (12, 1), (15, 96)], []⟩)]
noncomputable def plexuslaw22_LocalLegendre.lay : Lay := .nil
theorem plexuslaw22_LocalLegendre.lay_good : plexuslaw22_LocalLegendre.lay.good Try.prog := True.intro
noncomputable def plexuslaw22_LocalLegendre.pl : Pl := ⟨0, plexuslaw22_LocalLegendre.lay, plexuslaw22_LocalLegendre.ann, (Go.Vx.bodyOf Try.f4)⟩
noncomputable def plexuslaw22_LocalLegendre.l0 (n_ k : Nat)  (a1 : Int) (r2 : Bool) (r10 : Int) (r41 : Int) (v4 : Int) (v5 : Int) : Option (Bool) :=
  loopK n_ (execP Try.prog (plexuslaw22_LocalLegendre.fns k) k (plC [1, 1, 1, 1, 1, 1, 1, 1, 0, 1, 0, 0] plexuslaw22_LocalLegendre.pl)) (nmP (plC [1, 1, 1, 1, 1, 1, 1, 1, 0, 1, 0, 0] plexuslaw22_LocalLegendre.pl)) ({ tmps := [AV.dead, AV.val (Value.int IntKind.i16 a1)] ++ dz 5 ++ [AV.val (Value.bool r2), AV.val (Value.int IntKind.i64 r10)] ++ dz 2 ++ [AV.val (Value.int IntKind.i64 r41), AV.dead, AV.val (Value.int IntKind.i64 v4), AV.val (Value.int IntKind.i64 v5)] ++ dz 96, ents := [], nx := 0 }) (contP Try.prog (plexuslaw22_LocalLegendre.fns k) k [1, 1, 1, 1, 1, 1, 1, 1, 0, 1, 0] [] plexuslaw22_LocalLegendre.pl (finK Try.prog (plexuslaw22_LocalLegendre.s0) Try.f4.results.toList))
theorem plexuslaw22_LocalLegendre.l0_succ (n0 k : Nat)  (a1 : Int) (r2 : Bool) (r10 : Int) (r41 : Int) (v4 : Int) (v5 : Int) : plexuslaw22_LocalLegendre.l0 (n0 + 1) k  a1 r2 r10 r41 (v4) (v5) = (if (decide (v5 < r10)) = true then (Option.bind (plexuslaw22_legendre.m k v5 r10) fun (r271 : Int) => (plexuslaw22_LocalLegendre.l0 n0 k  a1 r2 r10 r41 (IntKind.wrap IntKind.i64 (v4 + r271)) (IntKind.wrap IntKind.i64 (v5 + 1)))) else (if (v4 == 0) = true then (Option.bind (plexuslaw22_legendre.m k (IntKind.wrap IntKind.i64 (IntKind.wrap IntKind.i64 a1 * IntKind.wrap IntKind.i64 a1)) r10) fun (r294 : Int) => (if (r294 == IntKind.wrap IntKind.i64 (r41 * r41)) = true then some (r2) else some (false))) else some (false))) := by kernel_rfl
noncomputable def plexuslaw22_LocalLegendre.m0 (k : Nat) (a0 : Int) (a1 : Int) (a2 : Int) : Option (Bool) :=
  execFI Try.prog (plexuslaw22_LocalLegendre.fns k) plexuslaw22_LocalLegendre.lay plexuslaw22_LocalLegendre.ann k (plexuslaw22_LocalLegendre.s0) 111 Try.f4.results.toList (Go.Vx.bodyOf Try.f4) (a0, a1, a2)
noncomputable def plexuslaw22_LocalLegendre.m : (Nat) → (Int) → (Int) → (Int) → Option (Bool) := hide plexuslaw22_LocalLegendre.m0
theorem plexuslaw22_LocalLegendre.m_hid : plexuslaw22_LocalLegendre.m = plexuslaw22_LocalLegendre.m0 := hide_eq _
theorem plexuslaw22_LocalLegendre.m_eq (k : Nat) (a0 : Int) (a1 : Int) (a2 : Int) : plexuslaw22_LocalLegendre.m k a0 a1 a2 = (Option.bind (plexuslaw22_examples.m k) fun (r2 : Bool) => (if (!r2) = true then some (false) else (Option.bind (plexuslaw22_primes.m k a0) fun (r10 : Int) => (if (r10 == 2) = true then (Option.bind (local_Legendre.m k (IntKind.wrap IntKind.i64 a1) 2) fun (r17 : Int × Int) => (if (r17.snd == 1) = true then some (r2) else some (false))) else (Option.bind (plexuslaw22_legendre.m k (IntKind.wrap IntKind.i64 a1) r10) fun (r41 : Int) => (Option.bind (plexuslaw22_legendre.m k (IntKind.wrap IntKind.i64 a2) r10) fun (r46 : Int) => (Option.bind (plexuslaw22_legendre.m k (IntKind.wrap IntKind.i64 (IntKind.wrap IntKind.i64 a1 * IntKind.wrap IntKind.i64 a2)) r10) fun (r56 : Int) => (if (r56 != IntKind.wrap IntKind.i64 (r41 * r46)) = true then some (false) else (Option.bind (plexuslaw22_legendre.m k (IntKind.wrap IntKind.i64 (IntKind.wrap IntKind.i64 a1 + IntKind.wrap IntKind.i64 (r10 * IntKind.wrap IntKind.i64 a2))) r10) fun (r138 : Int) => (if (r138 != r41) = true then some (false) else (if r10 = 0 then none else (if (!(r41 == 0) == (divF BinOp.rem IntKind.i64 (IntKind.wrap IntKind.i64 a1) r10 == 0)) = true then some (false) else (if decide (r41 > 1) = true then some (false) else (if (decide (r41 < -1)) = true then some (false) else (plexuslaw22_LocalLegendre.l0 k k  a1 r2 r10 r41 (0) (1)))))))))))))))) := by
  rw [plexuslaw22_LocalLegendre.m_hid]
  kernel_rfl
noncomputable def plexuslaw22_LocalLegendre.sp (k : Nat) : Go.Vx.Spec := plexuslaw22_LocalLegendre.s0.runs fun (x : plexuslaw22_LocalLegendre.s0.argK.T) => plexuslaw22_LocalLegendre.m k x.1 x.2.1 x.2.2
theorem plexuslaw22_LocalLegendre.good (k : Nat) : Go.Vx.Good Try.prog 4 (plexuslaw22_LocalLegendre.sp k) := Go.Vx.good_runsI Try.func4 (show Try.f4.body = some (Go.Vx.bodyOf Try.f4) by kernel_rfl) (by kernel_rfl) (by kernel_rfl) (plexuslaw22_LocalLegendre.fns_good k) plexuslaw22_LocalLegendre.lay_good (by
  intro x r h
  have h : plexuslaw22_LocalLegendre.m k x.1 x.2.1 x.2.2 = some r := h
  rw [plexuslaw22_LocalLegendre.m_hid] at h
  exact h)
end Go.Proofs.Ytakimeeakmlemaa.V22
