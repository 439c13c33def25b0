/- Functions as the kernel can run them, out of their equations; printed by a tool. -/
import Derived.Test.YtakimeeakmlemaaM22
import Derived.Test.YtakimeeakmlemaaX22E
namespace Go.Proofs.Ytakimeeakmlemaa.V22
open Go Go.Vx Go.Proofs
set_option linter.unusedVariables false
set_option linter.unusedSimpArgs false
set_option maxRecDepth 100000
set_option maxHeartbeats 4000000
def plexuslaw22_solved.c (k : Nat) (a0 : Int) (a1 : Int) : Option (Bool × (Int × Int × Int) × Int) := (Option.bind (local_Solve.c k a0 a1) fun (r4 : (Bool × (Int × Int × Int) × Int) × Int) => (if (r4.snd != 0) = true then some ((false, (0, 0, 0), -1)) else some ((r4.fst.fst, (r4.fst.snd.fst.fst, r4.fst.snd.fst.snd.fst, r4.fst.snd.fst.snd.snd), r4.fst.snd.snd))))
theorem plexuslaw22_solved.m_c : plexuslaw22_solved.m = plexuslaw22_solved.c := by
  funext k a0 a1
  rw [plexuslaw22_solved.m_eq, plexuslaw22_solved.c]
  simp only [local_Solve.m_c]
def plexuslaw22_hilbert.c (k : Nat) (a0 : Int) (a1 : Int) (a2 : Int) : Option (Int) := (Option.bind (local_Hilbert.c k a0 a1 a2) fun (r5 : Int × Int) => (if (r5.snd != 0) = true then some (0) else some (r5.fst)))
theorem plexuslaw22_hilbert.m_c : plexuslaw22_hilbert.m = plexuslaw22_hilbert.c := by
  funext k a0 a1 a2
  rw [plexuslaw22_hilbert.m_eq, plexuslaw22_hilbert.c]
  simp only [local_Hilbert.m_c]
def plexuslaw22_legendre.c (k : Nat) (a0 : Int) (a1 : Int) : Option (Int) := (Option.bind (local_Legendre.c k a0 a1) fun (r4 : Int × Int) => (if (r4.snd != 0) = true then some (2) else some (r4.fst)))
theorem plexuslaw22_legendre.m_c : plexuslaw22_legendre.m = plexuslaw22_legendre.c := by
  funext k a0 a1
  rw [plexuslaw22_legendre.m_eq, plexuslaw22_legendre.c]
  simp only [local_Legendre.m_c]
def plexuslaw22_examples.c (k : Nat) : Option (Bool) := (Option.bind (local_Factors.c k 12) fun (r2 : List (Int × Int) × Int) => (Option.bind (local_Legendre.c k 3 9) fun (r9 : Int × Int) => (Option.bind (local_Solve.c k 0 1) fun (r16 : (Bool × (Int × Int × Int) × Int) × Int) => (if (r2.snd != 0) = true then some (false) else (if ((↑(List.length r2.1) : Int) != 2) = true then some (false) else (if 0 < (↑(List.length r2.1) : Int) then (if (!((List.getD r2.1 (Int.toNat 0) (Int.ofNat 0, Int.ofNat 0)).fst == 2 && (List.getD r2.1 (Int.toNat 0) (Int.ofNat 0, Int.ofNat 0)).snd == 2)) = true then some (false) else (if 1 < (↑(List.length r2.1) : Int) then (if (!((List.getD r2.1 (Int.toNat 1) (Int.ofNat 0, Int.ofNat 0)).fst == 3 && (List.getD r2.1 (Int.toNat 1) (Int.ofNat 0, Int.ofNat 0)).snd == 1)) = true then some (false) else (if (r9.snd != 1) = true then some (false) else (if (r16.snd != 1) = true then some (false) else (Option.bind (plexuslaw22_solved.c k 2 2) fun (r218 : Bool × (Int × Int × Int) × Int) => (Option.bind (plexuslaw22_solved.c k 3 (-1)) fun (r220 : Bool × (Int × Int × Int) × Int) => (if (r218.fst == true && (r218.snd.fst.fst == 1 && (r218.snd.fst.snd.fst == 1 && r218.snd.fst.snd.snd == 2) && r218.snd.snd == 0)) = true then (if (r220.fst == false && (r220.snd.fst.fst == 0 && (r220.snd.fst.snd.fst == 0 && r220.snd.fst.snd.snd == 0) && r220.snd.snd == 2)) = true then (Option.bind (plexuslaw22_hilbert.c k 3 (-1) 3) fun (r241 : Int) => (if (r241 == -1) = true then (Option.bind (plexuslaw22_hilbert.c k 3 (-1) 0) fun (r249 : Int) => (if (r249 == 1) = true then (Option.bind (plexuslaw22_solved.c k 4 5) fun (r257 : Bool × (Int × Int × Int) × Int) => (if (r257.snd.fst.fst == 1 && (r257.snd.fst.snd.fst == 0 && r257.snd.fst.snd.snd == 2)) = true then (Option.bind (plexuslaw22_solved.c k 5 4) fun (r269 : Bool × (Int × Int × Int) × Int) => (if (r269.snd.fst.fst == 0 && (r269.snd.fst.snd.fst == 1 && r269.snd.fst.snd.snd == 2)) = true then (Option.bind (local_Square.c k 49) fun (r281 : Bool) => (if r281 = true then (Option.bind (local_Square.c k (-4)) fun (r287 : Bool) => (if (!r287) = true then (Option.bind (plexuslaw22_legendre.c k 2 7) fun (r295 : Int) => (if (r295 == 1) = true then (Option.bind (plexuslaw22_legendre.c k 3 7) fun (r303 : Int) => (if (r303 == -1) = true then (Option.bind (local_Check.c k 3 (-1) (r220.fst, (r220.snd.fst.fst, r220.snd.fst.snd.fst, r220.snd.fst.snd.snd), r220.snd.snd)) fun (r313 : Int) => (if (r313 == 0) = true then (Option.bind (local_Check.c k 3 (-1) (false, (0, 0, 0), 5)) fun (r323 : Int) => some (r323 == 6)) else some (false))) else some (false))) else some (false))) else some (false))) else some (false))) else some (false))) else some (false))) else some (false))) else some (false))) else some (false)) else some (false))))))) else none)) else none))))))
theorem plexuslaw22_examples.m_c : plexuslaw22_examples.m = plexuslaw22_examples.c := by
  funext k
  rw [plexuslaw22_examples.m_eq, plexuslaw22_examples.c]
  simp only [local_Check.m_c, local_Factors.m_c, local_Legendre.m_c, local_Solve.m_c, local_Square.m_c, plexuslaw22_hilbert.m_c, plexuslaw22_legendre.m_c, plexuslaw22_solved.m_c]
end Go.Proofs.Ytakimeeakmlemaa.V22
