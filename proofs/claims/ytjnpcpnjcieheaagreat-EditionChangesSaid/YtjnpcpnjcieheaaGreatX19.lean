/- Functions as the abstract executor tells them: equations, and contracts; printed by a tool. -/
import Derived.Test.YtjnpcpnjcieheaaGreatX06
namespace Go.Proofs.YtjnpcpnjcieheaaGreat.V48
open Go Go.Vx Go.Proofs
set_option linter.unusedVariables false
set_option maxRecDepth 100000
noncomputable def plexusref19_without.s0 : Go.Vx.Spec := ⟨[none, none], (.pair (K.slice (K.int IntKind.i64)) (K.int IntKind.i64)), [.own ((K.int IntKind.i64)) 3], .one (none), false, fun _ => none⟩
noncomputable def plexusref19_without.fns (k : Nat) : Go.Vx.Fns := []
theorem plexusref19_without.fns_good (k : Nat) : (plexusref19_without.fns k).good Tryz.prog := Go.Vx.Fns.good_nil
def plexusref19_without.ann : List (Nat × Ann) := []
noncomputable def plexusref19_without.lay : Lay := .nil
theorem plexusref19_without.lay_good : plexusref19_without.lay.good Tryz.prog := True.intro
noncomputable def plexusref19_without.pl : Pl := ⟨0, plexusref19_without.lay, plexusref19_without.ann, (Go.Vx.bodyOf Tryz.f119)⟩
noncomputable def plexusref19_without.m0 (k : Nat) (a0 : List Int) (a1 : Int) : Option (List Int) :=
  execFI Tryz.prog (plexusref19_without.fns k) plexusref19_without.lay plexusref19_without.ann k (plexusref19_without.s0) 15 Tryz.f119.results.toList (Go.Vx.bodyOf Tryz.f119) (a0, a1)
noncomputable def plexusref19_without.m : (Nat) → (List Int) → (Int) → Option (List Int) := hide plexusref19_without.m0
theorem plexusref19_without.m_hid : plexusref19_without.m = plexusref19_without.m0 := hide_eq _
theorem plexusref19_without.m_eq (k : Nat) (a0 : List Int) (a1 : Int) : plexusref19_without.m k a0 a1 = (if 0 ≤ a1 then (if a1 ≤ (↑(List.length a0) : Int) then (if (0 + List.length (List.take (Int.toNat a1) a0)) * 8 ≤ 140737488355328 then (if 0 ≤ IntKind.wrap IntKind.i64 (a1 + 1) then (if IntKind.wrap IntKind.i64 (a1 + 1) ≤ (↑(List.length a0) : Int) then (if (List.length (List.take (Int.toNat a1) a0) + List.length (List.drop (Int.toNat (IntKind.wrap IntKind.i64 (a1 + 1))) a0)) * 8 ≤ 140737488355328 then some (List.append (List.take (Int.toNat a1) a0) (List.drop (Int.toNat (IntKind.wrap IntKind.i64 (a1 + 1))) a0)) else none) else none) else none) else none) else none) else none) := by
  rw [plexusref19_without.m_hid]
  kernel_rfl
noncomputable def plexusref19_without.sp (k : Nat) : Go.Vx.Spec := plexusref19_without.s0.runs fun (x : plexusref19_without.s0.argK.T) => plexusref19_without.m k x.1 x.2
theorem plexusref19_without.good (k : Nat) : Go.Vx.Good Tryz.prog 119 (plexusref19_without.sp k) := Go.Vx.good_runsI Tryz.func119 (show Tryz.f119.body = some (Go.Vx.bodyOf Tryz.f119) by kernel_rfl) (by kernel_rfl) (by kernel_rfl) (plexusref19_without.fns_good k) plexusref19_without.lay_good (by
  intro x r h
  have h : plexusref19_without.m k x.1 x.2 = some r := h
  rw [plexusref19_without.m_hid] at h
  exact h)
noncomputable def plexusref19_arranged.s0 : Go.Vx.Spec := ⟨[none], (K.slice (K.int IntKind.i64)), [.own ((K.slice (K.int IntKind.i64))) 79], .one (none), true, fun _ => none⟩
noncomputable def plexusref19_arranged.fns (k : Nat) (sf : List Int → Option (List (List Int))) : Go.Vx.Fns := [(119, plexusref19_without.sp k), (108, (plexusref19_arranged.s0.runs fun (x : plexusref19_arranged.s0.argK.T) => sf x))]
theorem plexusref19_arranged.fns_good (k : Nat) (sf : List Int → Option (List (List Int))) (hsf : Go.Vx.Good Tryz.prog 108 (plexusref19_arranged.s0.runs fun (x : plexusref19_arranged.s0.argK.T) => sf x)) : (plexusref19_arranged.fns k sf).good Tryz.prog := (Go.Vx.Fns.good_cons (plexusref19_without.good k) (Go.Vx.Fns.good_cons (hsf) Go.Vx.Fns.good_nil))
def plexusref19_arranged.ann : List (Nat × Ann) := [(1000009, ⟨rg [(1, 2), (7, 36)], []⟩), (1000005, ⟨rg [(1, 2), (5, 38)], []⟩)]
noncomputable def plexusref19_arranged.lay : Lay := .nil
theorem plexusref19_arranged.lay_good : plexusref19_arranged.lay.good Tryz.prog := True.intro
noncomputable def plexusref19_arranged.pl : Pl := ⟨0, plexusref19_arranged.lay, plexusref19_arranged.ann, (Go.Vx.bodyOf Tryz.f108)⟩
noncomputable def plexusref19_arranged.l1 (n_ k : Nat) (sf : List Int → Option (List (List Int))) (n0 : Nat) (a0 : List Int) (v1 : Int) (r243 : List (List Int)) (v2x1 : Int) (v3 : List (List Int)) : Option (List (List Int)) :=
  loopK n_ (execP Tryz.prog (plexusref19_arranged.fns k sf) k (plC [1, 1, 1, 0, 1, 0, 0, 1, 0, 0, 1, 1, 0, 0] plexusref19_arranged.pl)) (nmP (plC [1, 1, 1, 0, 1, 0, 0, 1, 0, 0, 1, 1, 0, 0] plexusref19_arranged.pl)) ({ tmps := [AV.sh (K.int IntKind.i64) a0] ++ dz 2 ++ [AV.own 0, AV.val (Value.int IntKind.i64 v1), AV.own 1, AV.val (Value.int IntKind.i64 v2x1)] ++ dz 36, ents := [(0, Ent.row { k := K.slice (K.int IntKind.i64), T := 79, fz := false, xs := v3 }), (1, Ent.row { k := K.slice (K.int IntKind.i64), T := 79, fz := false, xs := r243 })], nx := 2 }) (contP Tryz.prog (plexusref19_arranged.fns k sf) k [1, 1, 1, 0, 1, 0, 0, 1, 0, 0, 1, 1, 0] [n0] plexusref19_arranged.pl (finK Tryz.prog (plexusref19_arranged.s0) Tryz.f108.results.toList))
noncomputable def plexusref19_arranged.l0 (n_ k : Nat) (sf : List Int → Option (List (List Int)))  (a0 : List Int) (v1 : Int) (v2 : List (List Int)) : Option (List (List Int)) :=
  loopK n_ (execP Tryz.prog (plexusref19_arranged.fns k sf) k (plC [1, 1, 1, 0, 1, 0, 0] plexusref19_arranged.pl)) (nmP (plC [1, 1, 1, 0, 1, 0, 0] plexusref19_arranged.pl)) ({ tmps := [AV.sh (K.int IntKind.i64) a0] ++ dz 2 ++ [AV.own 0, AV.val (Value.int IntKind.i64 v1)] ++ dz 38, ents := [(0, Ent.row { k := K.slice (K.int IntKind.i64), T := 79, fz := false, xs := v2 })], nx := 1 }) (contP Tryz.prog (plexusref19_arranged.fns k sf) k [1, 1, 1, 0, 1, 0] [] plexusref19_arranged.pl (finK Tryz.prog (plexusref19_arranged.s0) Tryz.f108.results.toList))
theorem plexusref19_arranged.l1_succ (n1 k : Nat) (sf : List Int → Option (List (List Int))) (n0 : Nat) (a0 : List Int) (v1 : Int) (r243 : List (List Int)) (v2x1 : Int) (v3 : List (List Int)) : plexusref19_arranged.l1 (n1 + 1) k sf n0 a0 v1 r243 (v2x1) (v3) = (if (decide (v2x1 < (↑(List.length r243) : Int))) = true then (if 0 ≤ v1 then (if v1 < (↑(List.length a0) : Int) then (if 0 ≤ v2x1 then (if v2x1 < (↑(List.length r243) : Int) then (if (List.length [List.getD a0 (Int.toNat v1) (Int.ofNat 0)] + List.length (List.getD r243 (Int.toNat v2x1) [])) * 8 ≤ 140737488355328 then (if (List.length v3 + List.length [List.getD a0 (Int.toNat v1) (Int.ofNat 0) :: List.append [] (List.getD r243 (Int.toNat v2x1) [])]) * 24 ≤ 140737488355328 then (plexusref19_arranged.l1 n1 k sf n0 a0 v1 r243 (IntKind.wrap IntKind.i64 (v2x1 + 1)) (v3 ++ [List.getD a0 (Int.toNat v1) (Int.ofNat 0) :: List.append [] (List.getD r243 (Int.toNat v2x1) [])])) else none) else none) else none) else none) else none) else none) else (plexusref19_arranged.l0 n0 k sf  a0 (IntKind.wrap IntKind.i64 (v1 + 1)) (v3))) := by kernel_rfl
theorem plexusref19_arranged.l0_succ (n0 k : Nat) (sf : List Int → Option (List (List Int)))  (a0 : List Int) (v1 : Int) (v2 : List (List Int)) : plexusref19_arranged.l0 (n0 + 1) k sf  a0 (v1) (v2) = (if (decide (v1 < (↑(List.length a0) : Int))) = true then (Option.bind (plexusref19_without.m k a0 v1) fun (r241 : List Int) => (Option.bind (sf r241) fun (r243 : List (List Int)) => (plexusref19_arranged.l1 k k sf n0 a0 v1 r243 (0) (v2)))) else some (v2)) := by kernel_rfl
noncomputable def plexusref19_arranged.b (k : Nat) (sf : List Int → Option (List (List Int))) (a0 : List Int) : Option (List (List Int)) :=
  execFI Tryz.prog (plexusref19_arranged.fns k sf) plexusref19_arranged.lay plexusref19_arranged.ann k (plexusref19_arranged.s0) 43 Tryz.f108.results.toList (Go.Vx.bodyOf Tryz.f108) a0
theorem plexusref19_arranged.b_eq (k : Nat) (sf : List Int → Option (List (List Int))) (a0 : List Int) : plexusref19_arranged.b k sf a0 = (if ((↑(List.length a0) : Int) == 0) = true then some ([[]]) else (plexusref19_arranged.l0 k k sf  a0 (0) ([]))) := by kernel_rfl
noncomputable def plexusref19_arranged.r : Nat → Nat → List Int → Option (List (List Int))
  | 0, _, _ => none
  | d + 1, k, a0 => plexusref19_arranged.b k (fun a0 => plexusref19_arranged.r d k a0) a0
theorem plexusref19_arranged.r_succ (d k : Nat) (a0 : List Int) : plexusref19_arranged.r (d + 1) k a0 = plexusref19_arranged.b k (fun a0 => plexusref19_arranged.r d k a0) a0 := rfl
theorem plexusref19_arranged.r_good (k : Nat) : ∀ d : Nat, Go.Vx.Good Tryz.prog 108 (plexusref19_arranged.s0.runs fun (x : plexusref19_arranged.s0.argK.T) => plexusref19_arranged.r d k x)
  | 0 => Go.Vx.good_runsI Tryz.func108 (show Tryz.f108.body = some (Go.Vx.bodyOf Tryz.f108) by kernel_rfl) (by kernel_rfl) (by kernel_rfl) (fns := []) (L := .nil) (ann := []) (fuel := 0) Go.Vx.Fns.good_nil True.intro fun x r h => absurd (show none = some r from h) (by simp)
  | d + 1 => Go.Vx.good_runsI Tryz.func108 (show Tryz.f108.body = some (Go.Vx.bodyOf Tryz.f108) by kernel_rfl) (by kernel_rfl) (by kernel_rfl) (ann := plexusref19_arranged.ann) (fuel := k) (plexusref19_arranged.fns_good k _ (plexusref19_arranged.r_good k d)) plexusref19_arranged.lay_good fun x r h => h
noncomputable def plexusref19_arranged.m (k : Nat) (a0 : List Int) : Option (List (List Int)) := plexusref19_arranged.r k k a0
noncomputable def plexusref19_arranged.sp (k : Nat) : Go.Vx.Spec := plexusref19_arranged.s0.runs fun (x : plexusref19_arranged.s0.argK.T) => plexusref19_arranged.r k k x
theorem plexusref19_arranged.good (k : Nat) : Go.Vx.Good Tryz.prog 108 (plexusref19_arranged.sp k) := plexusref19_arranged.r_good k k
noncomputable def plexusref19_Perms.s0 : Go.Vx.Spec := ⟨[none], (K.int IntKind.i64), [.own ((K.slice (K.int IntKind.i64))) 79], .one (none), true, fun _ => none⟩
noncomputable def plexusref19_Perms.fns (k : Nat) : Go.Vx.Fns := [(108, plexusref19_arranged.sp k)]
theorem plexusref19_Perms.fns_good (k : Nat) : (plexusref19_Perms.fns k).good Tryz.prog := (Go.Vx.Fns.good_cons (plexusref19_arranged.good k) Go.Vx.Fns.good_nil)
def plexusref19_Perms.ann : List (Nat × Ann) := [(1000003, ⟨rg [(1, 2), (5, 12)], []⟩)]
noncomputable def plexusref19_Perms.lay : Lay := .nil
theorem plexusref19_Perms.lay_good : plexusref19_Perms.lay.good Tryz.prog := True.intro
noncomputable def plexusref19_Perms.pl : Pl := ⟨0, plexusref19_Perms.lay, plexusref19_Perms.ann, (Go.Vx.bodyOf Tryz.f93)⟩
noncomputable def plexusref19_Perms.l0 (n_ k : Nat)  (a0 : Int) (v1 : Int) (v2 : List Int) : Option (List (List Int)) :=
  loopK n_ (execP Tryz.prog (plexusref19_Perms.fns k) k (plC [1, 1, 0, 1, 0, 0] plexusref19_Perms.pl)) (nmP (plC [1, 1, 0, 1, 0, 0] plexusref19_Perms.pl)) ({ tmps := [AV.val (Value.int IntKind.i64 a0)] ++ dz 2 ++ [AV.own 0, AV.val (Value.int IntKind.i64 v1)] ++ dz 12, ents := [(0, Ent.row { k := K.int IntKind.i64, T := 3, fz := false, xs := v2 })], nx := 1 }) (contP Tryz.prog (plexusref19_Perms.fns k) k [1, 1, 0, 1, 0] [] plexusref19_Perms.pl (finK Tryz.prog (plexusref19_Perms.s0) Tryz.f93.results.toList))
theorem plexusref19_Perms.l0_succ (n0 k : Nat)  (a0 : Int) (v1 : Int) (v2 : List Int) : plexusref19_Perms.l0 (n0 + 1) k  a0 (v1) (v2) = (if (decide (v1 < a0)) = true then (if (List.length v2 + List.length [v1]) * 8 ≤ 140737488355328 then (plexusref19_Perms.l0 n0 k  a0 (IntKind.wrap IntKind.i64 (v1 + 1)) (v2 ++ [v1])) else none) else (Option.bind (plexusref19_arranged.m k v2) fun (r44 : List (List Int)) => some (r44))) := by kernel_rfl
noncomputable def plexusref19_Perms.m0 (k : Nat) (a0 : Int) : Option (List (List Int)) :=
  execFI Tryz.prog (plexusref19_Perms.fns k) plexusref19_Perms.lay plexusref19_Perms.ann k (plexusref19_Perms.s0) 17 Tryz.f93.results.toList (Go.Vx.bodyOf Tryz.f93) a0
noncomputable def plexusref19_Perms.m : (Nat) → (Int) → Option (List (List Int)) := hide plexusref19_Perms.m0
theorem plexusref19_Perms.m_hid : plexusref19_Perms.m = plexusref19_Perms.m0 := hide_eq _
theorem plexusref19_Perms.m_eq (k : Nat) (a0 : Int) : plexusref19_Perms.m k a0 = (plexusref19_Perms.l0 k k  a0 (0) ([])) := by
  rw [plexusref19_Perms.m_hid]
  kernel_rfl
noncomputable def plexusref19_Perms.sp (k : Nat) : Go.Vx.Spec := plexusref19_Perms.s0.runs fun (x : plexusref19_Perms.s0.argK.T) => plexusref19_Perms.m k x
theorem plexusref19_Perms.good (k : Nat) : Go.Vx.Good Tryz.prog 93 (plexusref19_Perms.sp k) := Go.Vx.good_runsI Tryz.func93 (show Tryz.f93.body = some (Go.Vx.bodyOf Tryz.f93) by kernel_rfl) (by kernel_rfl) (by kernel_rfl) (plexusref19_Perms.fns_good k) plexusref19_Perms.lay_good (by
  intro x r h
  have h : plexusref19_Perms.m k x = some r := h
  rw [plexusref19_Perms.m_hid] at h
  exact h)
noncomputable def plexusref06_Different.s0 : Go.Vx.Spec := ⟨[none, none], (.pair (K.slice (K.int IntKind.i64)) (K.int IntKind.i64)), [.im (K.bool)], .one (none), false, fun _ => none⟩
noncomputable def plexusref06_Different.fns (k : Nat) : Go.Vx.Fns := []
theorem plexusref06_Different.fns_good (k : Nat) : (plexusref06_Different.fns k).good Tryz.prog := Go.Vx.Fns.good_nil
def plexusref06_Different.ann : List (Nat × Ann) := [(1000007, ⟨rg [(2, 3), (7, 33)], []⟩), (1000002, ⟨rg [(2, 3), (6, 34)], []⟩)]
noncomputable def plexusref06_Different.lay : Lay := .nil
theorem plexusref06_Different.lay_good : plexusref06_Different.lay.good Tryz.prog := True.intro
noncomputable def plexusref06_Different.pl : Pl := ⟨0, plexusref06_Different.lay, plexusref06_Different.ann, (Go.Vx.bodyOf Tryz.f120)⟩
noncomputable def plexusref06_Different.l1 (n_ k : Nat) (n0 : Nat) (a0 : List Int) (a1 : Int) (v2 : Int) (v3 : Int) : Option (Bool) :=
  loopK n_ (execP Tryz.prog (plexusref06_Different.fns k) k (plC [1, 0, 1, 0, 0, 1, 0, 0, 1, 1, 0, 0] plexusref06_Different.pl)) (nmP (plC [1, 0, 1, 0, 0, 1, 0, 0, 1, 1, 0, 0] plexusref06_Different.pl)) ({ tmps := [AV.sh (K.int IntKind.i64) a0, AV.val (Value.int IntKind.i64 a1)] ++ dz 3 ++ [AV.val (Value.int IntKind.i64 v2), AV.val (Value.int IntKind.i64 v3)] ++ dz 33, ents := [], nx := 0 }) (contP Tryz.prog (plexusref06_Different.fns k) k [1, 0, 1, 0, 0, 1, 0, 0, 1, 1, 0] [n0] plexusref06_Different.pl (finK Tryz.prog (plexusref06_Different.s0) Tryz.f120.results.toList))
noncomputable def plexusref06_Different.l0 (n_ k : Nat)  (a0 : List Int) (a1 : Int) (v2 : Int) : Option (Bool) :=
  loopK n_ (execP Tryz.prog (plexusref06_Different.fns k) k (plC [1, 0, 1, 0, 0] plexusref06_Different.pl)) (nmP (plC [1, 0, 1, 0, 0] plexusref06_Different.pl)) ({ tmps := [AV.sh (K.int IntKind.i64) a0, AV.val (Value.int IntKind.i64 a1)] ++ dz 3 ++ [AV.val (Value.int IntKind.i64 v2)] ++ dz 34, ents := [], nx := 0 }) (contP Tryz.prog (plexusref06_Different.fns k) k [1, 0, 1, 0] [] plexusref06_Different.pl (finK Tryz.prog (plexusref06_Different.s0) Tryz.f120.results.toList))
theorem plexusref06_Different.l1_succ (n1 k : Nat) (n0 : Nat) (a0 : List Int) (a1 : Int) (v2 : Int) (v3 : Int) : plexusref06_Different.l1 (n1 + 1) k n0 a0 a1 v2 (v3) = (if (decide (v3 < v2)) = true then (if 0 ≤ v3 then (if v3 < (↑(List.length a0) : Int) then (if 0 ≤ v2 then (if v2 < (↑(List.length a0) : Int) then (if (List.getD a0 (Int.toNat v3) (Int.ofNat 0) == List.getD a0 (Int.toNat v2) (Int.ofNat 0)) = true then some (false) else (plexusref06_Different.l1 n1 k n0 a0 a1 v2 (IntKind.wrap IntKind.i64 (v3 + 1)))) else none) else none) else none) else none) else (plexusref06_Different.l0 n0 k  a0 a1 (IntKind.wrap IntKind.i64 (v2 + 1)))) := by kernel_rfl
theorem plexusref06_Different.l0_succ (n0 k : Nat)  (a0 : List Int) (a1 : Int) (v2 : Int) : plexusref06_Different.l0 (n0 + 1) k  a0 a1 (v2) = (if (decide (v2 < (↑(List.length a0) : Int))) = true then (if 0 ≤ v2 then (if v2 < (↑(List.length a0) : Int) then (if decide (List.getD a0 (Int.toNat v2) (Int.ofNat 0) < 0) = true then some (false) else (if 0 ≤ v2 then (if v2 < (↑(List.length a0) : Int) then (if (decide (List.getD a0 (Int.toNat v2) (Int.ofNat 0) ≥ a1)) = true then some (false) else (plexusref06_Different.l1 k k n0 a0 a1 v2 (0))) else none) else none)) else none) else none) else some (true)) := by kernel_rfl
noncomputable def plexusref06_Different.m0 (k : Nat) (a0 : List Int) (a1 : Int) : Option (Bool) :=
  execFI Tryz.prog (plexusref06_Different.fns k) plexusref06_Different.lay plexusref06_Different.ann k (plexusref06_Different.s0) 40 Tryz.f120.results.toList (Go.Vx.bodyOf Tryz.f120) (a0, a1)
noncomputable def plexusref06_Different.m : (Nat) → (List Int) → (Int) → Option (Bool) := hide plexusref06_Different.m0
theorem plexusref06_Different.m_hid : plexusref06_Different.m = plexusref06_Different.m0 := hide_eq _
theorem plexusref06_Different.m_eq (k : Nat) (a0 : List Int) (a1 : Int) : plexusref06_Different.m k a0 a1 = (plexusref06_Different.l0 k k  a0 a1 (0)) := by
  rw [plexusref06_Different.m_hid]
  kernel_rfl
noncomputable def plexusref06_Different.sp (k : Nat) : Go.Vx.Spec := plexusref06_Different.s0.runs fun (x : plexusref06_Different.s0.argK.T) => plexusref06_Different.m k x.1 x.2
theorem plexusref06_Different.good (k : Nat) : Go.Vx.Good Tryz.prog 120 (plexusref06_Different.sp k) := Go.Vx.good_runsI Tryz.func120 (show Tryz.f120.body = some (Go.Vx.bodyOf Tryz.f120) by kernel_rfl) (by kernel_rfl) (by kernel_rfl) (plexusref06_Different.fns_good k) plexusref06_Different.lay_good (by
  intro x r h
  have h : plexusref06_Different.m k x.1 x.2 = some r := h
  rw [plexusref06_Different.m_hid] at h
  exact h)
noncomputable def plexusref06_Perm.s0 : Go.Vx.Spec := ⟨[none, none], (.pair (K.slice (K.int IntKind.i64)) (K.int IntKind.i64)), [.im (K.bool)], .one (none), false, fun _ => none⟩
noncomputable def plexusref06_Perm.fns (k : Nat) : Go.Vx.Fns := [(120, plexusref06_Different.sp k)]
theorem plexusref06_Perm.fns_good (k : Nat) : (plexusref06_Perm.fns k).good Tryz.prog := (Go.Vx.Fns.good_cons (plexusref06_Different.good k) Go.Vx.Fns.good_nil)
def plexusref06_Perm.ann : List (Nat × Ann) := []
noncomputable def plexusref06_Perm.lay : Lay := .nil
theorem plexusref06_Perm.lay_good : plexusref06_Perm.lay.good Tryz.prog := True.intro
noncomputable def plexusref06_Perm.pl : Pl := ⟨0, plexusref06_Perm.lay, plexusref06_Perm.ann, (Go.Vx.bodyOf Tryz.f109)⟩
noncomputable def plexusref06_Perm.m0 (k : Nat) (a0 : List Int) (a1 : Int) : Option (Bool) :=
  execFI Tryz.prog (plexusref06_Perm.fns k) plexusref06_Perm.lay plexusref06_Perm.ann k (plexusref06_Perm.s0) 12 Tryz.f109.results.toList (Go.Vx.bodyOf Tryz.f109) (a0, a1)
noncomputable def plexusref06_Perm.m : (Nat) → (List Int) → (Int) → Option (Bool) := hide plexusref06_Perm.m0
theorem plexusref06_Perm.m_hid : plexusref06_Perm.m = plexusref06_Perm.m0 := hide_eq _
theorem plexusref06_Perm.m_eq (k : Nat) (a0 : List Int) (a1 : Int) : plexusref06_Perm.m k a0 a1 = (if ((↑(List.length a0) : Int) != a1) = true then some (false) else (Option.bind (plexusref06_Different.m k a0 a1) fun (r10 : Bool) => some (r10))) := by
  rw [plexusref06_Perm.m_hid]
  kernel_rfl
noncomputable def plexusref06_Perm.sp (k : Nat) : Go.Vx.Spec := plexusref06_Perm.s0.runs fun (x : plexusref06_Perm.s0.argK.T) => plexusref06_Perm.m k x.1 x.2
theorem plexusref06_Perm.good (k : Nat) : Go.Vx.Good Tryz.prog 109 (plexusref06_Perm.sp k) := Go.Vx.good_runsI Tryz.func109 (show Tryz.f109.body = some (Go.Vx.bodyOf Tryz.f109) by kernel_rfl) (by kernel_rfl) (by kernel_rfl) (plexusref06_Perm.fns_good k) plexusref06_Perm.lay_good (by
  intro x r h
  have h : plexusref06_Perm.m k x.1 x.2 = some r := h
  rw [plexusref06_Perm.m_hid] at h
  exact h)
noncomputable def plexusref06_Moved.s0 : Go.Vx.Spec := ⟨[none, none], (.pair (K.int IntKind.u64) (K.slice (K.int IntKind.i64))), [.im (K.int IntKind.u64)], .one (none), false, fun _ => none⟩
noncomputable def plexusref06_Moved.fns (k : Nat) : Go.Vx.Fns := [(96, plexusref06_Bit.sp k)]
theorem plexusref06_Moved.fns_good (k : Nat) : (plexusref06_Moved.fns k).good Tryz.prog := (Go.Vx.Fns.good_cons (plexusref06_Bit.good k) Go.Vx.Fns.good_nil)
def plexusref06_Moved.ann : List (Nat × Ann) := [(1000003, ⟨rg [(2, 3), (7, 18)], []⟩)]
noncomputable def plexusref06_Moved.lay : Lay := .nil
theorem plexusref06_Moved.lay_good : plexusref06_Moved.lay.good Tryz.prog := True.intro
noncomputable def plexusref06_Moved.pl : Pl := ⟨0, plexusref06_Moved.lay, plexusref06_Moved.ann, (Go.Vx.bodyOf Tryz.f110)⟩
noncomputable def plexusref06_Moved.l0 (n_ k : Nat)  (a0 : Int) (a1 : List Int) (v2 : Int) (v3 : Int) : Option (Int) :=
  loopK n_ (execP Tryz.prog (plexusref06_Moved.fns k) k (plC [1, 1, 0, 1, 0, 0] plexusref06_Moved.pl)) (nmP (plC [1, 1, 0, 1, 0, 0] plexusref06_Moved.pl)) ({ tmps := [AV.val (Value.int IntKind.u64 a0), AV.sh (K.int IntKind.i64) a1] ++ dz 3 ++ [AV.val (Value.int IntKind.u64 v2), AV.val (Value.int IntKind.i64 v3)] ++ dz 18, ents := [], nx := 0 }) (contP Tryz.prog (plexusref06_Moved.fns k) k [1, 1, 0, 1, 0] [] plexusref06_Moved.pl (finK Tryz.prog (plexusref06_Moved.s0) Tryz.f110.results.toList))
theorem plexusref06_Moved.l0_succ (n0 k : Nat)  (a0 : Int) (a1 : List Int) (v2 : Int) (v3 : Int) : plexusref06_Moved.l0 (n0 + 1) k  a0 a1 (v2) (v3) = (if (decide (v3 < (↑(List.length a1) : Int))) = true then (Option.bind (plexusref06_Bit.m k a0 v3) fun (r67 : Bool) => (if (r67) = true then (if 0 ≤ v3 then (if v3 < (↑(List.length a1) : Int) then (if IntKind.wrap IntKind.u64 (List.getD a1 (Int.toNat v3) (Int.ofNat 0)) < 0 then none else (plexusref06_Moved.l0 n0 k  a0 a1 (IntKind.wrap IntKind.u64 (↑(BitVec.toNat (BitVec.ofInt (IntKind.bits IntKind.u64) v2 ||| BitVec.ofInt (IntKind.bits IntKind.u64) (shF BinOp.shl IntKind.u64 1 (IntKind.wrap IntKind.u64 (List.getD a1 (Int.toNat v3) (Int.ofNat 0)))))) : Int)) (IntKind.wrap IntKind.i64 (v3 + 1)))) else none) else none) else (plexusref06_Moved.l0 n0 k  a0 a1 (v2) (IntKind.wrap IntKind.i64 (v3 + 1))))) else some (v2)) := by kernel_rfl
noncomputable def plexusref06_Moved.m0 (k : Nat) (a0 : Int) (a1 : List Int) : Option (Int) :=
  execFI Tryz.prog (plexusref06_Moved.fns k) plexusref06_Moved.lay plexusref06_Moved.ann k (plexusref06_Moved.s0) 25 Tryz.f110.results.toList (Go.Vx.bodyOf Tryz.f110) (a0, a1)
noncomputable def plexusref06_Moved.m : (Nat) → (Int) → (List Int) → Option (Int) := hide plexusref06_Moved.m0
theorem plexusref06_Moved.m_hid : plexusref06_Moved.m = plexusref06_Moved.m0 := hide_eq _
theorem plexusref06_Moved.m_eq (k : Nat) (a0 : Int) (a1 : List Int) : plexusref06_Moved.m k a0 a1 = (plexusref06_Moved.l0 k k  a0 a1 (0) (0)) := by
  rw [plexusref06_Moved.m_hid]
  kernel_rfl
noncomputable def plexusref06_Moved.sp (k : Nat) : Go.Vx.Spec := plexusref06_Moved.s0.runs fun (x : plexusref06_Moved.s0.argK.T) => plexusref06_Moved.m k x.1 x.2
theorem plexusref06_Moved.good (k : Nat) : Go.Vx.Good Tryz.prog 110 (plexusref06_Moved.sp k) := Go.Vx.good_runsI Tryz.func110 (show Tryz.f110.body = some (Go.Vx.bodyOf Tryz.f110) by kernel_rfl) (by kernel_rfl) (by kernel_rfl) (plexusref06_Moved.fns_good k) plexusref06_Moved.lay_good (by
  intro x r h
  have h : plexusref06_Moved.m k x.1 x.2 = some r := h
  rw [plexusref06_Moved.m_hid] at h
  exact h)
noncomputable def plexusref06_Image.s0 : Go.Vx.Spec := ⟨[some 2, none], (.pair (K.pair (K.int IntKind.i64) (K.slice (K.int IntKind.u64))) (K.slice (K.int IntKind.i64))), [.im (K.pair (K.int IntKind.i64) (K.slice (K.int IntKind.u64)))], .one (some 2), true, fun _ => none⟩
noncomputable def plexusref06_Image.fns (k : Nat) : Go.Vx.Fns := [(109, plexusref06_Perm.sp k), (110, plexusref06_Moved.sp k), (97, plexusref06_With.sp k)]
theorem plexusref06_Image.fns_good (k : Nat) : (plexusref06_Image.fns k).good Tryz.prog := (Go.Vx.Fns.good_cons (plexusref06_Perm.good k) (Go.Vx.Fns.good_cons (plexusref06_Moved.good k) (Go.Vx.Fns.good_cons (plexusref06_With.good k) Go.Vx.Fns.good_nil)))
def plexusref06_Image.ann : List (Nat × Ann) := [(1000005, ⟨rg [(0, 1), (3, 1), (7, 28)], [(5, some 1, K.int IntKind.u64, some 22)]⟩)]
noncomputable def plexusref06_Image.lay : Lay := .nil
theorem plexusref06_Image.lay_good : plexusref06_Image.lay.good Tryz.prog := True.intro
noncomputable def plexusref06_Image.pl : Pl := ⟨0, plexusref06_Image.lay, plexusref06_Image.ann, (Go.Vx.bodyOf Tryz.f94)⟩
noncomputable def plexusref06_Image.l0 (n_ k : Nat)  (a0 : Int × List Int) (a1 : List Int) (v1 : Int) (v6 : List Int) : Option (Int × List Int) :=
  loopK n_ (execP Tryz.prog (plexusref06_Image.fns k) k (plC [1, 1, 1, 0, 1, 0, 0] plexusref06_Image.pl)) (nmP (plC [1, 1, 1, 0, 1, 0, 0] plexusref06_Image.pl)) ({ tmps := [AV.dead, AV.sh (K.int IntKind.i64) a1, AV.ptr 0 0, AV.dead, AV.ptr 1 0, AV.ptr 2 0, AV.val (Value.int IntKind.i64 v1)] ++ dz 28, ents := [(0, Ent.box 59 [AV.val (Value.int IntKind.i64 a0.fst), AV.sh (K.int IntKind.u64) a0.snd]), (1, Ent.box 59 [AV.val (Value.int IntKind.i64 0), AV.val (Value.slice none 0 0)]), (2, Ent.box 59 [AV.val (Value.int IntKind.i64 a0.fst), AV.own 3]), (3, Ent.row { k := K.int IntKind.u64, T := 22, fz := false, xs := v6 })], nx := 4 }) (contP Tryz.prog (plexusref06_Image.fns k) k [1, 1, 1, 0, 1, 0] [] plexusref06_Image.pl (finK Tryz.prog (plexusref06_Image.s0) Tryz.f94.results.toList))
theorem plexusref06_Image.l0_succ (n0 k : Nat)  (a0 : Int × List Int) (a1 : List Int) (v1 : Int) (v6 : List Int) : plexusref06_Image.l0 (n0 + 1) k  a0 a1 (v1) (v6) = (if (decide (v1 < (↑(List.length a0.snd) : Int))) = true then (if 0 ≤ v1 then (if v1 < (↑(List.length a0.snd) : Int) then (Option.bind (plexusref06_Moved.m k (List.getD a0.snd (Int.toNat v1) (Int.ofNat 0)) a1) fun (r84 : Int) => (Option.bind (plexusref06_With.m k v6 r84) fun (r86 : List Int) => (plexusref06_Image.l0 n0 k  a0 a1 (IntKind.wrap IntKind.i64 (v1 + 1)) (r86)))) else none) else none) else some ((a0.fst, v6))) := by kernel_rfl
noncomputable def plexusref06_Image.m0 (k : Nat) (a0 : Int × List Int) (a1 : List Int) : Option (Int × List Int) :=
  execFI Tryz.prog (plexusref06_Image.fns k) plexusref06_Image.lay plexusref06_Image.ann k (plexusref06_Image.s0) 35 Tryz.f94.results.toList (Go.Vx.bodyOf Tryz.f94) (a0, a1)
noncomputable def plexusref06_Image.m : (Nat) → (Int × List Int) → (List Int) → Option (Int × List Int) := hide plexusref06_Image.m0
theorem plexusref06_Image.m_hid : plexusref06_Image.m = plexusref06_Image.m0 := hide_eq _
theorem plexusref06_Image.m_eq (k : Nat) (a0 : Int × List Int) (a1 : List Int) : plexusref06_Image.m k a0 a1 = (Option.bind (plexusref06_Perm.m k a1 a0.fst) fun (r6 : Bool) => (if (!r6) = true then some ((a0.fst, a0.snd)) else (plexusref06_Image.l0 k k  a0 a1 (0) ([])))) := by
  rw [plexusref06_Image.m_hid]
  kernel_rfl
noncomputable def plexusref06_Image.sp (k : Nat) : Go.Vx.Spec := plexusref06_Image.s0.runs fun (x : plexusref06_Image.s0.argK.T) => plexusref06_Image.m k x.1 x.2
theorem plexusref06_Image.good (k : Nat) : Go.Vx.Good Tryz.prog 94 (plexusref06_Image.sp k) := Go.Vx.good_runsI Tryz.func94 (show Tryz.f94.body = some (Go.Vx.bodyOf Tryz.f94) by kernel_rfl) (by kernel_rfl) (by kernel_rfl) (plexusref06_Image.fns_good k) plexusref06_Image.lay_good (by
  intro x r h
  have h : plexusref06_Image.m k x.1 x.2 = some r := h
  rw [plexusref06_Image.m_hid] at h
  exact h)
noncomputable def plexusref19_Less.s0 : Go.Vx.Spec := ⟨[none, none], (.pair (K.slice (K.int IntKind.u64)) (K.slice (K.int IntKind.u64))), [.im (K.bool)], .one (none), false, fun _ => none⟩
noncomputable def plexusref19_Less.fns (k : Nat) : Go.Vx.Fns := []
theorem plexusref19_Less.fns_good (k : Nat) : (plexusref19_Less.fns k).good Tryz.prog := Go.Vx.Fns.good_nil
def plexusref19_Less.ann : List (Nat × Ann) := [(1000002, ⟨rg [(2, 3), (6, 24)], []⟩)]
noncomputable def plexusref19_Less.lay : Lay := .nil
theorem plexusref19_Less.lay_good : plexusref19_Less.lay.good Tryz.prog := True.intro
noncomputable def plexusref19_Less.pl : Pl := ⟨0, plexusref19_Less.lay, plexusref19_Less.ann, (Go.Vx.bodyOf Tryz.f95)⟩
noncomputable def plexusref19_Less.l0 (n_ k : Nat)  (a0 : List Int) (a1 : List Int) (v2 : Int) : Option (Bool) :=
  loopK n_ (execP Tryz.prog (plexusref19_Less.fns k) k (plC [1, 0, 1, 0, 0] plexusref19_Less.pl)) (nmP (plC [1, 0, 1, 0, 0] plexusref19_Less.pl)) ({ tmps := [AV.sh (K.int IntKind.u64) a0, AV.sh (K.int IntKind.u64) a1] ++ dz 3 ++ [AV.val (Value.int IntKind.i64 v2)] ++ dz 24, ents := [], nx := 0 }) (contP Tryz.prog (plexusref19_Less.fns k) k [1, 0, 1, 0] [] plexusref19_Less.pl (finK Tryz.prog (plexusref19_Less.s0) Tryz.f95.results.toList))
theorem plexusref19_Less.l0_succ (n0 k : Nat)  (a0 : List Int) (a1 : List Int) (v2 : Int) : plexusref19_Less.l0 (n0 + 1) k  a0 a1 (v2) = (if (decide (v2 < (↑(List.length a0) : Int))) = true then (if 0 ≤ v2 then (if v2 < (↑(List.length a0) : Int) then (if 0 ≤ v2 then (if v2 < (↑(List.length a1) : Int) then (if (List.getD a0 (Int.toNat v2) (Int.ofNat 0) != List.getD a1 (Int.toNat v2) (Int.ofNat 0)) = true then (if 0 ≤ v2 then (if v2 < (↑(List.length a0) : Int) then (if 0 ≤ v2 then (if v2 < (↑(List.length a1) : Int) then some (decide (List.getD a0 (Int.toNat v2) (Int.ofNat 0) < List.getD a1 (Int.toNat v2) (Int.ofNat 0))) else none) else none) else none) else none) else (plexusref19_Less.l0 n0 k  a0 a1 (IntKind.wrap IntKind.i64 (v2 + 1)))) else none) else none) else none) else none) else some (false)) := by kernel_rfl
noncomputable def plexusref19_Less.m0 (k : Nat) (a0 : List Int) (a1 : List Int) : Option (Bool) :=
  execFI Tryz.prog (plexusref19_Less.fns k) plexusref19_Less.lay plexusref19_Less.ann k (plexusref19_Less.s0) 30 Tryz.f95.results.toList (Go.Vx.bodyOf Tryz.f95) (a0, a1)
noncomputable def plexusref19_Less.m : (Nat) → (List Int) → (List Int) → Option (Bool) := hide plexusref19_Less.m0
theorem plexusref19_Less.m_hid : plexusref19_Less.m = plexusref19_Less.m0 := hide_eq _
theorem plexusref19_Less.m_eq (k : Nat) (a0 : List Int) (a1 : List Int) : plexusref19_Less.m k a0 a1 = (plexusref19_Less.l0 k k  a0 a1 (0)) := by
  rw [plexusref19_Less.m_hid]
  kernel_rfl
noncomputable def plexusref19_Less.sp (k : Nat) : Go.Vx.Spec := plexusref19_Less.s0.runs fun (x : plexusref19_Less.s0.argK.T) => plexusref19_Less.m k x.1 x.2
theorem plexusref19_Less.good (k : Nat) : Go.Vx.Good Tryz.prog 95 (plexusref19_Less.sp k) := Go.Vx.good_runsI Tryz.func95 (show Tryz.f95.body = some (Go.Vx.bodyOf Tryz.f95) by kernel_rfl) (by kernel_rfl) (by kernel_rfl) (plexusref19_Less.fns_good k) plexusref19_Less.lay_good (by
  intro x r h
  have h : plexusref19_Less.m k x.1 x.2 = some r := h
  rw [plexusref19_Less.m_hid] at h
  exact h)
noncomputable def plexusref19_Form.s0 : Go.Vx.Spec := ⟨[none, some 2], (.pair (K.int IntKind.i64) (K.pair (K.int IntKind.i64) (K.slice (K.int IntKind.u64)))), [.im (K.pair (K.int IntKind.i64) (K.slice (K.int IntKind.u64))), .im (K.slice (K.int IntKind.i64)), .im (K.int IntKind.i64)], .tup [some 2, none, none], true, fun _ => none⟩
noncomputable def plexusref19_Form.fns (k : Nat) : Go.Vx.Fns := [(92, plexusref06_Valid.sp k), (93, plexusref19_Perms.sp k), (94, plexusref06_Image.sp k), (95, plexusref19_Less.sp k)]
theorem plexusref19_Form.fns_good (k : Nat) : (plexusref19_Form.fns k).good Tryz.prog := (Go.Vx.Fns.good_cons (plexusref06_Valid.good k) (Go.Vx.Fns.good_cons (plexusref19_Perms.good k) (Go.Vx.Fns.good_cons (plexusref06_Image.good k) (Go.Vx.Fns.good_cons (plexusref19_Less.good k) Go.Vx.Fns.good_nil))))
def plexusref19_Form.ann : List (Nat × Ann) := [(2000012, ⟨rg [(1, 2), (5, 2), (12, 58), (71, 7)], []⟩), (1000008, ⟨rg [(1, 2), (5, 2), (11, 67)], []⟩)]
noncomputable def plexusref19_Form.lay : Lay := .nil
theorem plexusref19_Form.lay_good : plexusref19_Form.lay.good Tryz.prog := True.intro
noncomputable def plexusref19_Form.pl : Pl := ⟨0, plexusref19_Form.lay, plexusref19_Form.ann, (Go.Vx.bodyOf Tryz.f79)⟩
noncomputable def plexusref19_Form.j0 (k : Nat) (n0 : Nat) (a0 : Int) (a1 : Int × List Int) (r70 : List (List Int)) (v1 : List Int) (v2 : Int) (v7 : Int) (v8 : List Int) (r627 : Int × List Int) (v3 : Bool) : Option ((Int × List Int) × List Int × Int) :=
  joinK (fun s_ => execP Tryz.prog (plexusref19_Form.fns k) k (plC [1, 1, 1, 1, 1, 0, 1, 0, 0, 1, 0, 0, 1, 1] plexusref19_Form.pl) s_ (contP Tryz.prog (plexusref19_Form.fns k) k [1, 1, 1, 1, 1, 0, 1, 0, 0, 1, 0, 0, 1, 1] [n0] plexusref19_Form.pl (finK Tryz.prog (plexusref19_Form.s0) Tryz.f79.results.toList))) ({ tmps := [AV.val (Value.int IntKind.i64 a0)] ++ dz 2 ++ [AV.ptr 0 0, AV.ptr 1 0] ++ dz 2 ++ [AV.own 2, AV.ptr 3 0, AV.sh (K.int IntKind.i64) v1, AV.val (Value.int IntKind.i64 v2), AV.ptr 4 0] ++ dz 58 ++ [AV.val (Value.bool v3)] ++ dz 7, ents := [(0, Ent.box 59 [AV.val (Value.int IntKind.i64 a1.fst), AV.sh (K.int IntKind.u64) a1.snd]), (1, Ent.box 59 [AV.val (Value.int IntKind.i64 0), AV.val (Value.slice none 0 0)]), (2, Ent.row { k := K.slice (K.int IntKind.i64), T := 79, fz := false, xs := r70 }), (3, Ent.box 59 [AV.val (Value.int IntKind.i64 v7), AV.sh (K.int IntKind.u64) v8]), (4, Ent.box 59 [AV.val (Value.int IntKind.i64 r627.fst), AV.sh (K.int IntKind.u64) r627.snd])], nx := 5 })
noncomputable def plexusref19_Form.l0 (n_ k : Nat)  (a0 : Int) (a1 : Int × List Int) (r70 : List (List Int)) (v1 : List Int) (v2 : Int) (v7 : Int) (v8 : List Int) : Option ((Int × List Int) × List Int × Int) :=
  loopK n_ (execP Tryz.prog (plexusref19_Form.fns k) k (plC [1, 1, 1, 1, 1, 0, 1, 0, 0] plexusref19_Form.pl)) (nmP (plC [1, 1, 1, 1, 1, 0, 1, 0, 0] plexusref19_Form.pl)) ({ tmps := [AV.val (Value.int IntKind.i64 a0)] ++ dz 2 ++ [AV.ptr 0 0, AV.ptr 1 0] ++ dz 2 ++ [AV.own 2, AV.ptr 3 0, AV.sh (K.int IntKind.i64) v1, AV.val (Value.int IntKind.i64 v2)] ++ dz 67, ents := [(0, Ent.box 59 [AV.val (Value.int IntKind.i64 a1.fst), AV.sh (K.int IntKind.u64) a1.snd]), (1, Ent.box 59 [AV.val (Value.int IntKind.i64 0), AV.val (Value.slice none 0 0)]), (2, Ent.row { k := K.slice (K.int IntKind.i64), T := 79, fz := false, xs := r70 }), (3, Ent.box 59 [AV.val (Value.int IntKind.i64 v7), AV.sh (K.int IntKind.u64) v8])], nx := 4 }) (contP Tryz.prog (plexusref19_Form.fns k) k [1, 1, 1, 1, 1, 0, 1, 0] [] plexusref19_Form.pl (finK Tryz.prog (plexusref19_Form.s0) Tryz.f79.results.toList))
theorem plexusref19_Form.j0_eq (k : Nat) (n0 : Nat) (a0 : Int) (a1 : Int × List Int) (r70 : List (List Int)) (v1 : List Int) (v2 : Int) (v7 : Int) (v8 : List Int) (r627 : Int × List Int) (v3 : Bool) : plexusref19_Form.j0 k n0 a0 a1 r70 v1 v2 v7 v8 r627 (v3) = (if (v3) = true then (if 0 ≤ v2 then (if v2 < (↑(List.length r70) : Int) then (plexusref19_Form.l0 n0 k  a0 a1 r70 (List.getD r70 (Int.toNat v2) []) (IntKind.wrap IntKind.i64 (v2 + 1)) (r627.fst) (r627.snd)) else none) else none) else (plexusref19_Form.l0 n0 k  a0 a1 r70 (v1) (IntKind.wrap IntKind.i64 (v2 + 1)) (v7) (v8))) := by
  unfold plexusref19_Form.j0
  rw [joinK_eq]
  kernel_rfl
theorem plexusref19_Form.l0_succ (n0 k : Nat)  (a0 : Int) (a1 : Int × List Int) (r70 : List (List Int)) (v1 : List Int) (v2 : Int) (v7 : Int) (v8 : List Int) : plexusref19_Form.l0 (n0 + 1) k  a0 a1 r70 (v1) (v2) (v7) (v8) = (if (decide (v2 < (↑(List.length r70) : Int))) = true then (if 0 ≤ v2 then (if v2 < (↑(List.length r70) : Int) then (Option.bind (plexusref06_Image.m k (a1.fst, a1.snd) (List.getD r70 (Int.toNat v2) [])) fun (r627 : Int × List Int) => (if (a0 == 1) = true then (Option.bind (plexusref19_Less.m k r627.snd v8) fun (r775 : Bool) => (if r775 = true then (plexusref19_Form.j0 k n0 a0 a1 r70 v1 v2 v7 v8 r627 (true)) else (if (a0 == 2) = true then (Option.bind (plexusref19_Less.m k v8 r627.snd) fun (r809 : Bool) => (plexusref19_Form.j0 k n0 a0 a1 r70 v1 v2 v7 v8 r627 (r809))) else (plexusref19_Form.j0 k n0 a0 a1 r70 v1 v2 v7 v8 r627 (false))))) else (if (a0 == 2) = true then (Option.bind (plexusref19_Less.m k v8 r627.snd) fun (r857 : Bool) => (plexusref19_Form.j0 k n0 a0 a1 r70 v1 v2 v7 v8 r627 (r857))) else (plexusref19_Form.j0 k n0 a0 a1 r70 v1 v2 v7 v8 r627 (false))))) else none) else none) else some (((v7, v8), v1, 0))) := by kernel_rfl
noncomputable def plexusref19_Form.m0 (k : Nat) (a0 : Int) (a1 : Int × List Int) : Option ((Int × List Int) × List Int × Int) :=
  execFI Tryz.prog (plexusref19_Form.fns k) plexusref19_Form.lay plexusref19_Form.ann k (plexusref19_Form.s0) 78 Tryz.f79.results.toList (Go.Vx.bodyOf Tryz.f79) (a0, a1)
noncomputable def plexusref19_Form.m : (Nat) → (Int) → (Int × List Int) → Option ((Int × List Int) × List Int × Int) := hide plexusref19_Form.m0
theorem plexusref19_Form.m_hid : plexusref19_Form.m = plexusref19_Form.m0 := hide_eq _
theorem plexusref19_Form.m_eq (k : Nat) (a0 : Int) (a1 : Int × List Int) : plexusref19_Form.m k a0 a1 = (if decide (a0 < 1) = true then some (((0, []), [], 1)) else (if decide (a0 > 2) = true then some (((0, []), [], 1)) else (Option.bind (plexusref06_Valid.m k (a1.fst, a1.snd)) fun (r49 : Bool) => (if (!r49) = true then some (((0, []), [], 1)) else (if (decide (a1.fst > 7)) = true then some (((0, []), [], 2)) else (Option.bind (plexusref19_Perms.m k a1.fst) fun (r70 : List (List Int)) => (if 0 < (↑(List.length r70) : Int) then (Option.bind (plexusref06_Image.m k (a1.fst, a1.snd) (List.getD r70 (Int.toNat 0) [])) fun (r79 : Int × List Int) => (if 0 < (↑(List.length r70) : Int) then (plexusref19_Form.l0 k k  a0 a1 r70 (List.getD r70 (Int.toNat 0) []) (1) (r79.fst) (r79.snd)) else none)) else none))))))) := by
  rw [plexusref19_Form.m_hid]
  kernel_rfl
noncomputable def plexusref19_Form.sp (k : Nat) : Go.Vx.Spec := plexusref19_Form.s0.runs fun (x : plexusref19_Form.s0.argK.T) => plexusref19_Form.m k x.1 x.2
theorem plexusref19_Form.good (k : Nat) : Go.Vx.Good Tryz.prog 79 (plexusref19_Form.sp k) := Go.Vx.good_runsI Tryz.func79 (show Tryz.f79.body = some (Go.Vx.bodyOf Tryz.f79) by kernel_rfl) (by kernel_rfl) (by kernel_rfl) (plexusref19_Form.fns_good k) plexusref19_Form.lay_good (by
  intro x r h
  have h : plexusref19_Form.m k x.1 x.2 = some r := h
  rw [plexusref19_Form.m_hid] at h
  exact h)
noncomputable def plexusref21_FormOf.s0 : Go.Vx.Spec := ⟨[none, some 2], (.pair (K.int IntKind.i64) (K.pair (K.int IntKind.i64) (K.slice (K.int IntKind.u64)))), [.im (K.pair (K.pair (K.int IntKind.i64) (K.slice (K.int IntKind.u64))) (K.int IntKind.i64))], .one (some 3), true, fun _ => none⟩
noncomputable def plexusref21_FormOf.fns (k : Nat) : Go.Vx.Fns := [(79, plexusref19_Form.sp k)]
theorem plexusref21_FormOf.fns_good (k : Nat) : (plexusref21_FormOf.fns k).good Tryz.prog := (Go.Vx.Fns.good_cons (plexusref19_Form.good k) Go.Vx.Fns.good_nil)
def plexusref21_FormOf.ann : List (Nat × Ann) := []
noncomputable def plexusref21_FormOf.lay : Lay := .nil
theorem plexusref21_FormOf.lay_good : plexusref21_FormOf.lay.good Tryz.prog := True.intro
noncomputable def plexusref21_FormOf.pl : Pl := ⟨0, plexusref21_FormOf.lay, plexusref21_FormOf.ann, (Go.Vx.bodyOf Tryz.f62)⟩
noncomputable def plexusref21_FormOf.m0 (k : Nat) (a0 : Int) (a1 : Int × List Int) : Option ((Int × List Int) × Int) :=
  execFI Tryz.prog (plexusref21_FormOf.fns k) plexusref21_FormOf.lay plexusref21_FormOf.ann k (plexusref21_FormOf.s0) 18 Tryz.f62.results.toList (Go.Vx.bodyOf Tryz.f62) (a0, a1)
noncomputable def plexusref21_FormOf.m : (Nat) → (Int) → (Int × List Int) → Option ((Int × List Int) × Int) := hide plexusref21_FormOf.m0
theorem plexusref21_FormOf.m_hid : plexusref21_FormOf.m = plexusref21_FormOf.m0 := hide_eq _
theorem plexusref21_FormOf.m_eq (k : Nat) (a0 : Int) (a1 : Int × List Int) : plexusref21_FormOf.m k a0 a1 = (Option.bind (plexusref19_Form.m k a0 (a1.fst, a1.snd)) fun (r5 : (Int × List Int) × List Int × Int) => some (((r5.fst.fst, r5.fst.snd), r5.snd.snd))) := by
  rw [plexusref21_FormOf.m_hid]
  kernel_rfl
noncomputable def plexusref21_FormOf.sp (k : Nat) : Go.Vx.Spec := plexusref21_FormOf.s0.runs fun (x : plexusref21_FormOf.s0.argK.T) => plexusref21_FormOf.m k x.1 x.2
theorem plexusref21_FormOf.good (k : Nat) : Go.Vx.Good Tryz.prog 62 (plexusref21_FormOf.sp k) := Go.Vx.good_runsI Tryz.func62 (show Tryz.f62.body = some (Go.Vx.bodyOf Tryz.f62) by kernel_rfl) (by kernel_rfl) (by kernel_rfl) (plexusref21_FormOf.fns_good k) plexusref21_FormOf.lay_good (by
  intro x r h
  have h : plexusref21_FormOf.m k x.1 x.2 = some r := h
  rw [plexusref21_FormOf.m_hid] at h
  exact h)
noncomputable def plexusref06_SameBlocks.s0 : Go.Vx.Spec := ⟨[none, none], (.pair (K.slice (K.int IntKind.u64)) (K.slice (K.int IntKind.u64))), [.im (K.bool)], .one (none), false, fun _ => none⟩
noncomputable def plexusref06_SameBlocks.fns (k : Nat) : Go.Vx.Fns := []
theorem plexusref06_SameBlocks.fns_good (k : Nat) : (plexusref06_SameBlocks.fns k).good Tryz.prog := Go.Vx.Fns.good_nil
def plexusref06_SameBlocks.ann : List (Nat × Ann) := [(1000004, ⟨rg [(2, 3), (6, 20)], []⟩)]
noncomputable def plexusref06_SameBlocks.lay : Lay := .nil
theorem plexusref06_SameBlocks.lay_good : plexusref06_SameBlocks.lay.good Tryz.prog := True.intro
noncomputable def plexusref06_SameBlocks.pl : Pl := ⟨0, plexusref06_SameBlocks.lay, plexusref06_SameBlocks.ann, (Go.Vx.bodyOf Tryz.f57)⟩
noncomputable def plexusref06_SameBlocks.l0 (n_ k : Nat)  (a0 : List Int) (a1 : List Int) (v2 : Int) : Option (Bool) :=
  loopK n_ (execP Tryz.prog (plexusref06_SameBlocks.fns k) k (plC [1, 1, 0, 1, 0, 0] plexusref06_SameBlocks.pl)) (nmP (plC [1, 1, 0, 1, 0, 0] plexusref06_SameBlocks.pl)) ({ tmps := [AV.sh (K.int IntKind.u64) a0, AV.sh (K.int IntKind.u64) a1] ++ dz 3 ++ [AV.val (Value.int IntKind.i64 v2)] ++ dz 20, ents := [], nx := 0 }) (contP Tryz.prog (plexusref06_SameBlocks.fns k) k [1, 1, 0, 1, 0] [] plexusref06_SameBlocks.pl (finK Tryz.prog (plexusref06_SameBlocks.s0) Tryz.f57.results.toList))
theorem plexusref06_SameBlocks.l0_succ (n0 k : Nat)  (a0 : List Int) (a1 : List Int) (v2 : Int) : plexusref06_SameBlocks.l0 (n0 + 1) k  a0 a1 (v2) = (if (decide (v2 < (↑(List.length a0) : Int))) = true then (if 0 ≤ v2 then (if v2 < (↑(List.length a0) : Int) then (if 0 ≤ v2 then (if v2 < (↑(List.length a1) : Int) then (if (List.getD a0 (Int.toNat v2) (Int.ofNat 0) != List.getD a1 (Int.toNat v2) (Int.ofNat 0)) = true then some (false) else (plexusref06_SameBlocks.l0 n0 k  a0 a1 (IntKind.wrap IntKind.i64 (v2 + 1)))) else none) else none) else none) else none) else some (true)) := by kernel_rfl
noncomputable def plexusref06_SameBlocks.m0 (k : Nat) (a0 : List Int) (a1 : List Int) : Option (Bool) :=
  execFI Tryz.prog (plexusref06_SameBlocks.fns k) plexusref06_SameBlocks.lay plexusref06_SameBlocks.ann k (plexusref06_SameBlocks.s0) 26 Tryz.f57.results.toList (Go.Vx.bodyOf Tryz.f57) (a0, a1)
noncomputable def plexusref06_SameBlocks.m : (Nat) → (List Int) → (List Int) → Option (Bool) := hide plexusref06_SameBlocks.m0
theorem plexusref06_SameBlocks.m_hid : plexusref06_SameBlocks.m = plexusref06_SameBlocks.m0 := hide_eq _
theorem plexusref06_SameBlocks.m_eq (k : Nat) (a0 : List Int) (a1 : List Int) : plexusref06_SameBlocks.m k a0 a1 = (if ((↑(List.length a0) : Int) != (↑(List.length a1) : Int)) = true then some (false) else (plexusref06_SameBlocks.l0 k k  a0 a1 (0))) := by
  rw [plexusref06_SameBlocks.m_hid]
  kernel_rfl
noncomputable def plexusref06_SameBlocks.sp (k : Nat) : Go.Vx.Spec := plexusref06_SameBlocks.s0.runs fun (x : plexusref06_SameBlocks.s0.argK.T) => plexusref06_SameBlocks.m k x.1 x.2
theorem plexusref06_SameBlocks.good (k : Nat) : Go.Vx.Good Tryz.prog 57 (plexusref06_SameBlocks.sp k) := Go.Vx.good_runsI Tryz.func57 (show Tryz.f57.body = some (Go.Vx.bodyOf Tryz.f57) by kernel_rfl) (by kernel_rfl) (by kernel_rfl) (plexusref06_SameBlocks.fns_good k) plexusref06_SameBlocks.lay_good (by
  intro x r h
  have h : plexusref06_SameBlocks.m k x.1 x.2 = some r := h
  rw [plexusref06_SameBlocks.m_hid] at h
  exact h)
noncomputable def plexusref06_Same.s0 : Go.Vx.Spec := ⟨[some 2, some 2], (.pair (K.pair (K.int IntKind.i64) (K.slice (K.int IntKind.u64))) (K.pair (K.int IntKind.i64) (K.slice (K.int IntKind.u64)))), [.im (K.bool)], .one (none), false, fun _ => none⟩
noncomputable def plexusref06_Same.fns (k : Nat) : Go.Vx.Fns := [(57, plexusref06_SameBlocks.sp k)]
theorem plexusref06_Same.fns_good (k : Nat) : (plexusref06_Same.fns k).good Tryz.prog := (Go.Vx.Fns.good_cons (plexusref06_SameBlocks.good k) Go.Vx.Fns.good_nil)
def plexusref06_Same.ann : List (Nat × Ann) := []
noncomputable def plexusref06_Same.lay : Lay := .nil
theorem plexusref06_Same.lay_good : plexusref06_Same.lay.good Tryz.prog := True.intro
noncomputable def plexusref06_Same.pl : Pl := ⟨0, plexusref06_Same.lay, plexusref06_Same.ann, (Go.Vx.bodyOf Tryz.f34)⟩
noncomputable def plexusref06_Same.m0 (k : Nat) (a0 : Int × List Int) (a1 : Int × List Int) : Option (Bool) :=
  execFI Tryz.prog (plexusref06_Same.fns k) plexusref06_Same.lay plexusref06_Same.ann k (plexusref06_Same.s0) 17 Tryz.f34.results.toList (Go.Vx.bodyOf Tryz.f34) (a0, a1)
noncomputable def plexusref06_Same.m : (Nat) → (Int × List Int) → (Int × List Int) → Option (Bool) := hide plexusref06_Same.m0
theorem plexusref06_Same.m_hid : plexusref06_Same.m = plexusref06_Same.m0 := hide_eq _
theorem plexusref06_Same.m_eq (k : Nat) (a0 : Int × List Int) (a1 : Int × List Int) : plexusref06_Same.m k a0 a1 = (if (a0.fst == a1.fst) = true then (Option.bind (plexusref06_SameBlocks.m k a0.snd a1.snd) fun (r19 : Bool) => some (r19)) else some (false)) := by
  rw [plexusref06_Same.m_hid]
  kernel_rfl
noncomputable def plexusref06_Same.sp (k : Nat) : Go.Vx.Spec := plexusref06_Same.s0.runs fun (x : plexusref06_Same.s0.argK.T) => plexusref06_Same.m k x.1 x.2
theorem plexusref06_Same.good (k : Nat) : Go.Vx.Good Tryz.prog 34 (plexusref06_Same.sp k) := Go.Vx.good_runsI Tryz.func34 (show Tryz.f34.body = some (Go.Vx.bodyOf Tryz.f34) by kernel_rfl) (by kernel_rfl) (by kernel_rfl) (plexusref06_Same.fns_good k) plexusref06_Same.lay_good (by
  intro x r h
  have h : plexusref06_Same.m k x.1 x.2 = some r := h
  rw [plexusref06_Same.m_hid] at h
  exact h)
noncomputable def plexusref21_named.s0 : Go.Vx.Spec := ⟨[some 3, some 2], (.pair (K.pair (K.int IntKind.i64) (K.pair (K.int IntKind.i64) (K.slice (K.pair (K.int IntKind.i64) (K.pair (K.int IntKind.i64) (K.slice (K.int IntKind.u64))))))) (K.pair (K.int IntKind.i64) (K.slice (K.int IntKind.u64)))), [.im (K.int IntKind.i64)], .one (none), false, fun _ => none⟩
noncomputable def plexusref21_named.fns (k : Nat) : Go.Vx.Fns := [(34, plexusref06_Same.sp k)]
theorem plexusref21_named.fns_good (k : Nat) : (plexusref21_named.fns k).good Tryz.prog := (Go.Vx.Fns.good_cons (plexusref06_Same.good k) Go.Vx.Fns.good_nil)
def plexusref21_named.ann : List (Nat × Ann) := [(1000002, ⟨rg [(0, 2), (4, 1), (6, 21)], []⟩)]
noncomputable def plexusref21_named.lay : Lay := .nil
theorem plexusref21_named.lay_good : plexusref21_named.lay.good Tryz.prog := True.intro
noncomputable def plexusref21_named.pl : Pl := ⟨0, plexusref21_named.lay, plexusref21_named.ann, (Go.Vx.bodyOf Tryz.f63)⟩
noncomputable def plexusref21_named.l0 (n_ k : Nat)  (a0 : Int × Int × List (Int × Int × List Int)) (a1 : Int × List Int) (v0 : Int) : Option (Int) :=
  loopK n_ (execP Tryz.prog (plexusref21_named.fns k) k (plC [1, 0, 1, 0, 0] plexusref21_named.pl)) (nmP (plC [1, 0, 1, 0, 0] plexusref21_named.pl)) ({ tmps := dz 2 ++ [AV.ptr 0 0, AV.ptr 1 0, AV.dead, AV.val (Value.int IntKind.i64 v0)] ++ dz 21, ents := [(0, Ent.box 34 [AV.val (Value.int IntKind.i64 a0.fst), AV.val (Value.int IntKind.i64 a0.snd.fst), AV.sh (K.pair (K.int IntKind.i64) (K.pair (K.int IntKind.i64) (K.slice (K.int IntKind.u64)))) a0.snd.snd]), (1, Ent.box 59 [AV.val (Value.int IntKind.i64 a1.fst), AV.sh (K.int IntKind.u64) a1.snd])], nx := 2 }) (contP Tryz.prog (plexusref21_named.fns k) k [1, 0, 1, 0] [] plexusref21_named.pl (finK Tryz.prog (plexusref21_named.s0) Tryz.f63.results.toList))
theorem plexusref21_named.l0_succ (n0 k : Nat)  (a0 : Int × Int × List (Int × Int × List Int)) (a1 : Int × List Int) (v0 : Int) : plexusref21_named.l0 (n0 + 1) k  a0 a1 (v0) = (if (decide (v0 < (↑(List.length a0.snd.snd) : Int))) = true then (if 0 ≤ v0 then (if v0 < (↑(List.length a0.snd.snd) : Int) then (Option.bind (plexusref06_Same.m k ((List.getD a0.snd.snd (Int.toNat v0) (Int.ofNat 0, Int.ofNat 0, [])).snd.fst, (List.getD a0.snd.snd (Int.toNat v0) (Int.ofNat 0, Int.ofNat 0, [])).snd.snd) (a1.fst, a1.snd)) fun (r81 : Bool) => (if (r81) = true then (if 0 ≤ v0 then (if v0 < (↑(List.length a0.snd.snd) : Int) then some ((List.getD a0.snd.snd (Int.toNat v0) (Int.ofNat 0, Int.ofNat 0, [])).fst) else none) else none) else (plexusref21_named.l0 n0 k  a0 a1 (IntKind.wrap IntKind.i64 (v0 + 1))))) else none) else none) else some (0)) := by kernel_rfl
noncomputable def plexusref21_named.m0 (k : Nat) (a0 : Int × Int × List (Int × Int × List Int)) (a1 : Int × List Int) : Option (Int) :=
  execFI Tryz.prog (plexusref21_named.fns k) plexusref21_named.lay plexusref21_named.ann k (plexusref21_named.s0) 27 Tryz.f63.results.toList (Go.Vx.bodyOf Tryz.f63) (a0, a1)
noncomputable def plexusref21_named.m : (Nat) → (Int × Int × List (Int × Int × List Int)) → (Int × List Int) → Option (Int) := hide plexusref21_named.m0
theorem plexusref21_named.m_hid : plexusref21_named.m = plexusref21_named.m0 := hide_eq _
theorem plexusref21_named.m_eq (k : Nat) (a0 : Int × Int × List (Int × Int × List Int)) (a1 : Int × List Int) : plexusref21_named.m k a0 a1 = (plexusref21_named.l0 k k  a0 a1 (0)) := by
  rw [plexusref21_named.m_hid]
  kernel_rfl
noncomputable def plexusref21_named.sp (k : Nat) : Go.Vx.Spec := plexusref21_named.s0.runs fun (x : plexusref21_named.s0.argK.T) => plexusref21_named.m k x.1 x.2
theorem plexusref21_named.good (k : Nat) : Go.Vx.Good Tryz.prog 63 (plexusref21_named.sp k) := Go.Vx.good_runsI Tryz.func63 (show Tryz.f63.body = some (Go.Vx.bodyOf Tryz.f63) by kernel_rfl) (by kernel_rfl) (by kernel_rfl) (plexusref21_named.fns_good k) plexusref21_named.lay_good (by
  intro x r h
  have h : plexusref21_named.m k x.1 x.2 = some r := h
  rw [plexusref21_named.m_hid] at h
  exact h)
noncomputable def plexusref21_with.s0 : Go.Vx.Spec := ⟨[some 3, some 3], (.pair (K.pair (K.int IntKind.i64) (K.pair (K.int IntKind.i64) (K.slice (K.pair (K.int IntKind.i64) (K.pair (K.int IntKind.i64) (K.slice (K.int IntKind.u64))))))) (K.pair (K.int IntKind.i64) (K.pair (K.int IntKind.i64) (K.slice (K.int IntKind.u64))))), [.im (K.pair (K.int IntKind.i64) (K.pair (K.int IntKind.i64) (K.slice (K.pair (K.int IntKind.i64) (K.pair (K.int IntKind.i64) (K.slice (K.int IntKind.u64)))))))], .one (some 3), true, fun _ => none⟩
noncomputable def plexusref21_with.fns (k : Nat) : Go.Vx.Fns := []
theorem plexusref21_with.fns_good (k : Nat) : (plexusref21_with.fns k).good Tryz.prog := Go.Vx.Fns.good_nil
def plexusref21_with.ann : List (Nat × Ann) := [(1000002, ⟨rg [(0, 2), (6, 34)], []⟩), (2000004, ⟨rg [(0, 2), (6, 34)], []⟩)]
noncomputable def plexusref21_with.lay : Lay := .nil
theorem plexusref21_with.lay_good : plexusref21_with.lay.good Tryz.prog := True.intro
noncomputable def plexusref21_with.pl : Pl := ⟨0, plexusref21_with.lay, plexusref21_with.ann, (Go.Vx.bodyOf Tryz.f64)⟩
noncomputable def plexusref21_with.j0 (k : Nat)  (a0 : Int × Int × List (Int × Int × List Int)) (a1 : Int × Int × List Int) (v0 : Int) : Option (Int × Int × List (Int × Int × List Int)) :=
  joinK (fun s_ => execP Tryz.prog (plexusref21_with.fns k) k (plC [1, 1, 1] plexusref21_with.pl) s_ (contP Tryz.prog (plexusref21_with.fns k) k [1, 1, 1] [] plexusref21_with.pl (finK Tryz.prog (plexusref21_with.s0) Tryz.f64.results.toList))) ({ tmps := dz 2 ++ [AV.ptr 0 0, AV.ptr 1 0, AV.ptr 2 0, AV.val (Value.int IntKind.i64 v0)] ++ dz 34, ents := [(0, Ent.box 34 [AV.val (Value.int IntKind.i64 a0.fst), AV.val (Value.int IntKind.i64 a0.snd.fst), AV.sh (K.pair (K.int IntKind.i64) (K.pair (K.int IntKind.i64) (K.slice (K.int IntKind.u64)))) a0.snd.snd]), (1, Ent.box 61 [AV.val (Value.int IntKind.i64 a1.fst), AV.val (Value.int IntKind.i64 a1.snd.fst), AV.sh (K.int IntKind.u64) a1.snd.snd]), (2, Ent.box 34 [AV.val (Value.int IntKind.i64 0), AV.val (Value.int IntKind.i64 0), AV.val (Value.slice none 0 0)])], nx := 3 })
noncomputable def plexusref21_with.l0 (n_ k : Nat)  (a0 : Int × Int × List (Int × Int × List Int)) (a1 : Int × Int × List Int) (v0 : Int) : Option (Int × Int × List (Int × Int × List Int)) :=
  loopK n_ (execP Tryz.prog (plexusref21_with.fns k) k (plC [1, 1, 0, 0, 0] plexusref21_with.pl)) (nmP (plC [1, 1, 0, 0, 0] plexusref21_with.pl)) ({ tmps := dz 2 ++ [AV.ptr 0 0, AV.ptr 1 0, AV.ptr 2 0, AV.val (Value.int IntKind.i64 v0)] ++ dz 34, ents := [(0, Ent.box 34 [AV.val (Value.int IntKind.i64 a0.fst), AV.val (Value.int IntKind.i64 a0.snd.fst), AV.sh (K.pair (K.int IntKind.i64) (K.pair (K.int IntKind.i64) (K.slice (K.int IntKind.u64)))) a0.snd.snd]), (1, Ent.box 61 [AV.val (Value.int IntKind.i64 a1.fst), AV.val (Value.int IntKind.i64 a1.snd.fst), AV.sh (K.int IntKind.u64) a1.snd.snd]), (2, Ent.box 34 [AV.val (Value.int IntKind.i64 0), AV.val (Value.int IntKind.i64 0), AV.val (Value.slice none 0 0)])], nx := 3 }) (contP Tryz.prog (plexusref21_with.fns k) k [1, 1, 0, 0] [] plexusref21_with.pl (finK Tryz.prog (plexusref21_with.s0) Tryz.f64.results.toList))
theorem plexusref21_with.j0_eq (k : Nat)  (a0 : Int × Int × List (Int × Int × List Int)) (a1 : Int × Int × List Int) (v0 : Int) : plexusref21_with.j0 k  a0 a1 (v0) = (if 0 ≤ v0 then (if v0 ≤ (↑(List.length a0.snd.snd) : Int) then (if (0 + List.length (List.take (Int.toNat v0) a0.snd.snd)) * 40 ≤ 140737488355328 then (if (List.length (List.take (Int.toNat v0) a0.snd.snd) + List.length [(a1.fst, a1.snd.fst, a1.snd.snd)]) * 40 ≤ 140737488355328 then (if 0 ≤ v0 then (if v0 ≤ (↑(List.length a0.snd.snd) : Int) then (if (List.length (List.append (List.take (Int.toNat v0) a0.snd.snd) [(a1.fst, a1.snd.fst, a1.snd.snd)]) + List.length (List.drop (Int.toNat v0) a0.snd.snd)) * 40 ≤ 140737488355328 then some ((a0.fst, a0.snd.fst, List.append (List.append (List.take (Int.toNat v0) a0.snd.snd) [(a1.fst, a1.snd.fst, a1.snd.snd)]) (List.drop (Int.toNat v0) a0.snd.snd))) else none) else none) else none) else none) else none) else none) else none) := by
  unfold plexusref21_with.j0
  rw [joinK_eq]
  kernel_rfl
theorem plexusref21_with.l0_succ (n0 k : Nat)  (a0 : Int × Int × List (Int × Int × List Int)) (a1 : Int × Int × List Int) (v0 : Int) : plexusref21_with.l0 (n0 + 1) k  a0 a1 (v0) = (if (decide (v0 < (↑(List.length a0.snd.snd) : Int))) = true then (if 0 ≤ v0 then (if v0 < (↑(List.length a0.snd.snd) : Int) then (if (decide ((List.getD a0.snd.snd (Int.toNat v0) (Int.ofNat 0, Int.ofNat 0, [])).fst < a1.fst)) = true then (plexusref21_with.l0 n0 k  a0 a1 (IntKind.wrap IntKind.i64 (v0 + 1))) else (plexusref21_with.j0 k  a0 a1 (v0))) else none) else none) else (plexusref21_with.j0 k  a0 a1 (v0))) := by kernel_rfl
noncomputable def plexusref21_with.m0 (k : Nat) (a0 : Int × Int × List (Int × Int × List Int)) (a1 : Int × Int × List Int) : Option (Int × Int × List (Int × Int × List Int)) :=
  execFI Tryz.prog (plexusref21_with.fns k) plexusref21_with.lay plexusref21_with.ann k (plexusref21_with.s0) 40 Tryz.f64.results.toList (Go.Vx.bodyOf Tryz.f64) (a0, a1)
noncomputable def plexusref21_with.m : (Nat) → (Int × Int × List (Int × Int × List Int)) → (Int × Int × List Int) → Option (Int × Int × List (Int × Int × List Int)) := hide plexusref21_with.m0
theorem plexusref21_with.m_hid : plexusref21_with.m = plexusref21_with.m0 := hide_eq _
theorem plexusref21_with.m_eq (k : Nat) (a0 : Int × Int × List (Int × Int × List Int)) (a1 : Int × Int × List Int) : plexusref21_with.m k a0 a1 = (plexusref21_with.l0 k k  a0 a1 (0)) := by
  rw [plexusref21_with.m_hid]
  kernel_rfl
noncomputable def plexusref21_with.sp (k : Nat) : Go.Vx.Spec := plexusref21_with.s0.runs fun (x : plexusref21_with.s0.argK.T) => plexusref21_with.m k x.1 x.2
theorem plexusref21_with.good (k : Nat) : Go.Vx.Good Tryz.prog 64 (plexusref21_with.sp k) := Go.Vx.good_runsI Tryz.func64 (show Tryz.f64.body = some (Go.Vx.bodyOf Tryz.f64) by kernel_rfl) (by kernel_rfl) (by kernel_rfl) (plexusref21_with.fns_good k) plexusref21_with.lay_good (by
  intro x r h
  have h : plexusref21_with.m k x.1 x.2 = some r := h
  rw [plexusref21_with.m_hid] at h
  exact h)
noncomputable def plexusref21_PutIn.s0 : Go.Vx.Spec := ⟨[some 3, some 2], (.pair (K.pair (K.int IntKind.i64) (K.pair (K.int IntKind.i64) (K.slice (K.pair (K.int IntKind.i64) (K.pair (K.int IntKind.i64) (K.slice (K.int IntKind.u64))))))) (K.pair (K.int IntKind.i64) (K.slice (K.int IntKind.u64)))), [.im (K.pair (K.pair (K.int IntKind.i64) (K.pair (K.int IntKind.i64) (K.slice (K.pair (K.int IntKind.i64) (K.pair (K.int IntKind.i64) (K.slice (K.int IntKind.u64))))))) (K.pair (K.int IntKind.i64) (K.pair (K.slice (K.pair (K.int IntKind.i64) (K.int IntKind.i64))) (K.int IntKind.i64))))], .one (some 6), true, fun _ => none⟩
noncomputable def plexusref21_PutIn.fns (k : Nat) : Go.Vx.Fns := [(62, plexusref21_FormOf.sp k), (63, plexusref21_named.sp k), (64, plexusref21_with.sp k)]
theorem plexusref21_PutIn.fns_good (k : Nat) : (plexusref21_PutIn.fns k).good Tryz.prog := (Go.Vx.Fns.good_cons (plexusref21_FormOf.good k) (Go.Vx.Fns.good_cons (plexusref21_named.good k) (Go.Vx.Fns.good_cons (plexusref21_with.good k) Go.Vx.Fns.good_nil)))
def plexusref21_PutIn.ann : List (Nat × Ann) := []
noncomputable def plexusref21_PutIn.lay : Lay := .nil
theorem plexusref21_PutIn.lay_good : plexusref21_PutIn.lay.good Tryz.prog := True.intro
noncomputable def plexusref21_PutIn.pl : Pl := ⟨0, plexusref21_PutIn.lay, plexusref21_PutIn.ann, (Go.Vx.bodyOf Tryz.f38)⟩
noncomputable def plexusref21_PutIn.m0 (k : Nat) (a0 : Int × Int × List (Int × Int × List Int)) (a1 : Int × List Int) : Option ((Int × Int × List (Int × Int × List Int)) × Int × List (Int × Int) × Int) :=
  execFI Tryz.prog (plexusref21_PutIn.fns k) plexusref21_PutIn.lay plexusref21_PutIn.ann k (plexusref21_PutIn.s0) 52 Tryz.f38.results.toList (Go.Vx.bodyOf Tryz.f38) (a0, a1)
noncomputable def plexusref21_PutIn.m : (Nat) → (Int × Int × List (Int × Int × List Int)) → (Int × List Int) → Option ((Int × Int × List (Int × Int × List Int)) × Int × List (Int × Int) × Int) := hide plexusref21_PutIn.m0
theorem plexusref21_PutIn.m_hid : plexusref21_PutIn.m = plexusref21_PutIn.m0 := hide_eq _
theorem plexusref21_PutIn.m_eq (k : Nat) (a0 : Int × Int × List (Int × Int × List Int)) (a1 : Int × List Int) : plexusref21_PutIn.m k a0 a1 = (Option.bind (plexusref21_FormOf.m k a0.fst (a1.fst, a1.snd)) fun (r7 : (Int × List Int) × Int) => (if (r7.snd != 0) = true then some (((0, 0, []), 0, [], r7.snd)) else (Option.bind (plexusref21_named.m k (a0.fst, a0.snd.fst, a0.snd.snd) (r7.fst.fst, r7.fst.snd)) fun (r22 : Int) => (if (decide (r22 > 0)) = true then some (((a0.fst, a0.snd.fst, a0.snd.snd), r22, [], 0)) else (if decide ((↑(List.length a0.snd.snd) : Int) ≥ 100) = true then some (((0, 0, []), 0, [], 2)) else (if (decide (a0.snd.fst ≥ 1000000)) = true then some (((0, 0, []), 0, [], 2)) else (Option.bind (plexusref21_with.m k (a0.fst, a0.snd.fst, a0.snd.snd) (a0.snd.fst, r7.fst.fst, r7.fst.snd)) fun (r64 : Int × Int × List (Int × Int × List Int)) => some (((r64.fst, IntKind.wrap IntKind.i64 (r64.snd.fst + 1), r64.snd.snd), a0.snd.fst, [], 0))))))))) := by
  rw [plexusref21_PutIn.m_hid]
  kernel_rfl
noncomputable def plexusref21_PutIn.sp (k : Nat) : Go.Vx.Spec := plexusref21_PutIn.s0.runs fun (x : plexusref21_PutIn.s0.argK.T) => plexusref21_PutIn.m k x.1 x.2
theorem plexusref21_PutIn.good (k : Nat) : Go.Vx.Good Tryz.prog 38 (plexusref21_PutIn.sp k) := Go.Vx.good_runsI Tryz.func38 (show Tryz.f38.body = some (Go.Vx.bodyOf Tryz.f38) by kernel_rfl) (by kernel_rfl) (by kernel_rfl) (plexusref21_PutIn.fns_good k) plexusref21_PutIn.lay_good (by
  intro x r h
  have h : plexusref21_PutIn.m k x.1 x.2 = some r := h
  rw [plexusref21_PutIn.m_hid] at h
  exact h)
noncomputable def plexusref21_Made.s0 : Go.Vx.Spec := ⟨[some 3], (K.pair (K.int IntKind.u8) (K.pair (K.int IntKind.u8) (K.slice (K.slice (K.int IntKind.u8))))), [.im (K.pair (K.int IntKind.i64) (K.pair (K.int IntKind.i64) (K.slice (K.pair (K.int IntKind.i64) (K.pair (K.int IntKind.i64) (K.slice (K.int IntKind.u64)))))))], .one (some 3), true, fun _ => none⟩
noncomputable def plexusref21_Made.fns (k : Nat) : Go.Vx.Fns := [(39, plexusref06_Pick.sp k), (38, plexusref21_PutIn.sp k)]
theorem plexusref21_Made.fns_good (k : Nat) : (plexusref21_Made.fns k).good Tryz.prog := (Go.Vx.Fns.good_cons (plexusref06_Pick.good k) (Go.Vx.Fns.good_cons (plexusref21_PutIn.good k) Go.Vx.Fns.good_nil))
def plexusref21_Made.ann : List (Nat × Ann) := [(1000003, ⟨rg [(0, 1), (5, 41)], [(3, some 2, K.pair (K.int IntKind.i64) (K.pair (K.int IntKind.i64) (K.slice (K.int IntKind.u64))), none)]⟩)]
noncomputable def plexusref21_Made.lay : Lay := .nil
theorem plexusref21_Made.lay_good : plexusref21_Made.lay.good Tryz.prog := True.intro
noncomputable def plexusref21_Made.pl : Pl := ⟨0, plexusref21_Made.lay, plexusref21_Made.ann, (Go.Vx.bodyOf Tryz.f11)⟩
noncomputable def plexusref21_Made.l0 (n_ k : Nat)  (a0 : Int × Int × List (List Int)) (v0 : Int) (v6 : Int) (v7 : Int) (v8 : List (Int × Int × List Int)) : Option (Int × Int × List (Int × Int × List Int)) :=
  loopK n_ (execP Tryz.prog (plexusref21_Made.fns k) k (plC [1, 1, 0, 1, 0, 0] plexusref21_Made.pl)) (nmP (plC [1, 1, 0, 1, 0, 0] plexusref21_Made.pl)) ({ tmps := [AV.dead, AV.ptr 0 0, AV.ptr 1 0, AV.ptr 2 0, AV.val (Value.int IntKind.i64 v0)] ++ dz 41, ents := [(0, Ent.box 28 [AV.val (Value.int IntKind.u8 a0.fst), AV.val (Value.int IntKind.u8 a0.snd.fst), AV.sh (K.slice (K.int IntKind.u8)) a0.snd.snd]), (1, Ent.box 34 [AV.val (Value.int IntKind.i64 0), AV.val (Value.int IntKind.i64 0), AV.val (Value.slice none 0 0)]), (2, Ent.box 34 [AV.val (Value.int IntKind.i64 v6), AV.val (Value.int IntKind.i64 v7), AV.sh (K.pair (K.int IntKind.i64) (K.pair (K.int IntKind.i64) (K.slice (K.int IntKind.u64)))) v8])], nx := 3 }) (contP Tryz.prog (plexusref21_Made.fns k) k [1, 1, 0, 1, 0] [] plexusref21_Made.pl (finK Tryz.prog (plexusref21_Made.s0) Tryz.f11.results.toList))
theorem plexusref21_Made.l0_succ (n0 k : Nat)  (a0 : Int × Int × List (List Int)) (v0 : Int) (v6 : Int) (v7 : Int) (v8 : List (Int × Int × List Int)) : plexusref21_Made.l0 (n0 + 1) k  a0 (v0) (v6) (v7) (v8) = (if decide (v0 < (↑(List.length a0.snd.snd) : Int)) = true then (if (decide (v0 < 6)) = true then (if 0 ≤ v0 then (if v0 < (↑(List.length a0.snd.snd) : Int) then (Option.bind (plexusref06_Pick.m k (List.getD a0.snd.snd (Int.toNat v0) [])) fun (r140 : Int × List Int) => (Option.bind (plexusref21_PutIn.m k (v6, v7, v8) (r140.fst, r140.snd)) fun (r142 : (Int × Int × List (Int × Int × List Int)) × Int × List (Int × Int) × Int) => (if (divF BinOp.rem IntKind.u8 (divF BinOp.quo IntKind.u8 a0.snd.fst 8) 4 == 1) = true then (plexusref21_Made.l0 n0 k  a0 (IntKind.wrap IntKind.i64 (v0 + 1)) (r142.fst.fst) (IntKind.wrap IntKind.i64 (r142.fst.snd.fst + 1)) (r142.fst.snd.snd)) else (plexusref21_Made.l0 n0 k  a0 (IntKind.wrap IntKind.i64 (v0 + 1)) (r142.fst.fst) (r142.fst.snd.fst) (r142.fst.snd.snd))))) else none) else none) else some ((v6, v7, v8))) else some ((v6, v7, v8))) := by kernel_rfl
noncomputable def plexusref21_Made.m0 (k : Nat) (a0 : Int × Int × List (List Int)) : Option (Int × Int × List (Int × Int × List Int)) :=
  execFI Tryz.prog (plexusref21_Made.fns k) plexusref21_Made.lay plexusref21_Made.ann k (plexusref21_Made.s0) 46 Tryz.f11.results.toList (Go.Vx.bodyOf Tryz.f11) a0
noncomputable def plexusref21_Made.m : (Nat) → (Int × Int × List (List Int)) → Option (Int × Int × List (Int × Int × List Int)) := hide plexusref21_Made.m0
theorem plexusref21_Made.m_hid : plexusref21_Made.m = plexusref21_Made.m0 := hide_eq _
theorem plexusref21_Made.m_eq (k : Nat) (a0 : Int × Int × List (List Int)) : plexusref21_Made.m k a0 = (plexusref21_Made.l0 k k  a0 (0) (IntKind.wrap IntKind.i64 (1 + IntKind.wrap IntKind.i64 (divF BinOp.rem IntKind.u8 a0.fst 2))) (IntKind.wrap IntKind.i64 (1 + IntKind.wrap IntKind.i64 (divF BinOp.rem IntKind.u8 a0.snd.fst 5))) ([])) := by
  rw [plexusref21_Made.m_hid]
  kernel_rfl
noncomputable def plexusref21_Made.sp (k : Nat) : Go.Vx.Spec := plexusref21_Made.s0.runs fun (x : plexusref21_Made.s0.argK.T) => plexusref21_Made.m k x
theorem plexusref21_Made.good (k : Nat) : Go.Vx.Good Tryz.prog 11 (plexusref21_Made.sp k) := Go.Vx.good_runsI Tryz.func11 (show Tryz.f11.body = some (Go.Vx.bodyOf Tryz.f11) by kernel_rfl) (by kernel_rfl) (by kernel_rfl) (plexusref21_Made.fns_good k) plexusref21_Made.lay_good (by
  intro x r h
  have h : plexusref21_Made.m k x = some r := h
  rw [plexusref21_Made.m_hid] at h
  exact h)
end Go.Proofs.YtjnpcpnjcieheaaGreat.V48
