/- Contracts of the functions of journal's laws that the printed walks have shown, under the names that the executor's printed texts use. -/
import Derived.Test.YtcanekmlabehgaaVsJ
import Derived.Test.YtcanekmlabehgaaP46x5
namespace Go.Proofs.Ytcanekmlabehgaa.V46
open Go Go.Vx Go.RowKit Go.Proofs.Ytcanekmlabehgaa.P46 Go.Proofs.YtcanekmlabehgaaW.PrintWords Go.Proofs.YtcanekmlabehgaaW.PrintLast Go.Proofs.YtcanekmlabehgaaW.PrintMore
set_option linter.unusedVariables false
set_option linter.unusedSimpArgs false
noncomputable def put.sp (k : Nat) : Vx.Spec := sPut k
theorem put.good (k : Nat) : Vx.Good Try.prog 34 (put.sp k) := sPut_good k
noncomputable def jput.sp (k : Nat) : Vx.Spec := sJPut k
theorem jput.good (k : Nat) : Vx.Good Try.prog 27 (jput.sp k) := sJPut_good k
noncomputable def read.sp (k : Nat) : Vx.Spec := sRead k
theorem read.good (k : Nat) : Vx.Good Try.prog 26 (read.sp k) := sRead_good k
noncomputable def recs.sp (k : Nat) : Vx.Spec := sRecs k
theorem recs.good (k : Nat) : Vx.Good Try.prog 29 (recs.sp k) := sRecs_good k
noncomputable def whole.sp (k : Nat) : Vx.Spec := sWhole k
theorem whole.good (k : Nat) : Vx.Good Try.prog 31 (whole.sp k) := sWhole_good k
noncomputable def exs.sp (k : Nat) : Vx.Spec := ⟨[], .unit, [.im .bool], .one none, false, fun _ => plexuslaw46_examples.f k⟩
theorem exs.good (k : Nat) : Vx.Good Try.prog 22 (exs.sp k) := by
  refine ⟨⟨_, Try.func22, by kernel_rfl, by kernel_rfl⟩, fun x r hx w F cells hF hR => ?_⟩
  obtain rfl : cells = [] := hR
  refine (plexuslaw46_examples.calls k r w hx).mono ?_
  rintro e w' ⟨rfl, hb⟩
  exact ⟨[.bool r], fun _ => False, rfl, hb, fun _ q => q.elim, rfl, List.Pairwise.nil⟩
noncomputable def small.sp (k : Nat) : Vx.Spec := ⟨[none], kR, [.im .bool], .one none, false, fun (x : List (List Int)) => plexusref46_Small.f k x⟩
theorem small.good (k : Nat) : Vx.Good Try.prog 23 (small.sp k) := by
  refine ⟨⟨_, Try.func23, by kernel_rfl, by kernel_rfl⟩, fun x r hx w F cells hF hR => ?_⟩
  obtain ⟨A, c, rfl, hc, hr⟩ := arg_rows (e := 3) hR
  refine (plexusref46_Small.calls k A c x r w hr hc hx).mono ?_
  rintro e w' ⟨rfl, hb⟩
  exact ⟨[.bool r], fun _ => False, rfl, hb.below, fun _ q => q.elim, rfl, List.Pairwise.nil⟩
noncomputable def same.sp (k : Nat) : Vx.Spec := ⟨[none, none], .pair kY kY, [.im .bool], .one none, false, fun (x : List Int × List Int) => plexusref46_Same.f x.1 x.2⟩
theorem same.good (k : Nat) : Vx.Good Try.prog 30 (same.sp k) := by
  refine ⟨⟨_, Try.func30, by kernel_rfl, by kernel_rfl⟩, fun x r hx w F cells hF hR => ?_⟩
  obtain ⟨c0, c1, rfl, h0, h1⟩ := hR
  obtain ⟨A, c, rfl, hc, hr⟩ := arg_ints h0
  obtain ⟨A', c', rfl, hc', hr'⟩ := arg_ints h1
  refine (plexusref46_Same.calls A c x.1 A' c' x.2 r w hr hc hr' hc' hx).mono ?_
  rintro e w' ⟨rfl, hb⟩
  exact ⟨[.bool r], fun _ => False, rfl, hb.below, fun _ q => q.elim, rfl, List.Pairwise.nil⟩
noncomputable def made.sp (k : Nat) : Vx.Spec := ⟨[none], kR, [.im kY, .im kI], .tup [none, none], false, fun (x : List (List Int)) => plexuslaw46_made.f k x⟩
theorem made.good (k : Nat) : Vx.Good Try.prog 33 (made.sp k) := by
  refine ⟨⟨_, Try.func33, by kernel_rfl, by kernel_rfl⟩, fun x r hx w F cells hF hR => ?_⟩
  obtain ⟨A, c, rfl, hc, hr⟩ := arg_rows (e := 3) hR
  obtain ⟨r1, r2⟩ := r
  refine (plexuslaw46_made.calls k A c x r1 r2 w hr hc hx).mono ?_
  rintro e w' ⟨v, u, rfl, ho, hp, hb⟩
  exact ⟨[v, u], fun b => w.heap.size ≤ b ∧ b < w'.heap.size, rfl, hb, fun _ q => ⟨q.2, .inr q.1⟩, ⟨[v], [u], rfl, im_ints ho, im_ints hp⟩, List.Pairwise.nil⟩
end Go.Proofs.Ytcanekmlabehgaa.V46
