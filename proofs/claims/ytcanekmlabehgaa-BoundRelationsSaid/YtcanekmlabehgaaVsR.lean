/- Contracts of the functions of bound's laws that the printed walks have shown, for the abstract executor. -/
import Derived.Test.YtcanekmlabehgaaVB
import Derived.Test.YtcanekmlabehgaaPx3
namespace Go.Proofs.Ytcanekmlabehgaa.V23
open Go Go.Vx Go.RowKit Go.Proofs.Ytcanekmlabehgaa.P Go.Proofs.YtcanekmlabehgaaW.PrintWords Go.Proofs.YtcanekmlabehgaaW.PrintLast Go.Proofs.YtcanekmlabehgaaW.PrintMore
set_option linter.unusedVariables false
set_option linter.unusedSimpArgs false
/-- Two numbers to two numbers in a struct. -/
noncomputable def sTwo (run : Int → Int → Option (Int × Int)) : Vx.Spec := ⟨[none, none], .pair (.int .i64) (.int .i64), [.im (.pair (.int .i64) (.int .i64))], .one (some 2), false, fun (x : Int × Int) => run x.1 x.2⟩
theorem two_good {f : Nat} {fn : Func} (hf : Try.prog.funcs[f]? = some fn) (hb : fn.body.isSome = true) (hn : (fn.name == "runtime.NumGoroutine") = false) {run : Int → Int → Option (Int × Int)}
    (h : ∀ (a b r1 r2 : Int) (w : World), run a b = some (r1, r2) → Calls Try.prog f #[.int .i64 a, .int .i64 b] w fun e w' => e = .returned (.agg #[.int .i64 r1, .int .i64 r2]) ∧ Below w.heap.size w w') : Vx.Good Try.prog f (sTwo run) := by
  refine ⟨⟨_, hf, hb, hn⟩, fun x r hx w F cells hF hR => ?_⟩
  obtain ⟨c0, c1, rfl, h0, h1⟩ := hR
  obtain rfl : c0 = _ := h0
  obtain rfl : c1 = _ := h1
  obtain ⟨r1, r2⟩ := r
  refine (h x.1 x.2 r1 r2 w hx).mono ?_
  rintro e w' ⟨rfl, hb⟩
  exact ⟨[.int .i64 r1, .int .i64 r2], fun _ => False, rfl, hb, fun _ q => q.elim, ⟨[.int .i64 r1], [.int .i64 r2], rfl, rfl, rfl⟩, List.Pairwise.nil⟩
noncomputable def sphere.sp (k : Nat) : Vx.Spec := sTwo (plexuslaw23_sphere.f k)
theorem sphere.good (k : Nat) : Vx.Good Try.prog 36 (sphere.sp k) := two_good Try.func36 (by kernel_rfl) (by kernel_rfl) fun a b r1 r2 w h => plexuslaw23_sphere.calls k a b r1 r2 w h
noncomputable def singleton.sp (k : Nat) : Vx.Spec := sTwo plexuslaw23_singleton.f
theorem singleton.good (k : Nat) : Vx.Good Try.prog 38 (singleton.sp k) := two_good Try.func38 (by kernel_rfl) (by kernel_rfl) fun a b r1 r2 w h => plexuslaw23_singleton.calls a b r1 r2 w h
noncomputable def plotkin.sp (k : Nat) : Vx.Spec := sTwo (plexuslaw23_plotkin.f k)
theorem plotkin.good (k : Nat) : Vx.Good Try.prog 40 (plotkin.sp k) := two_good Try.func40 (by kernel_rfl) (by kernel_rfl) fun a b r1 r2 w h => plexuslaw23_plotkin.calls k a b r1 r2 w h
noncomputable def griesmer.sp (k : Nat) : Vx.Spec := sTwo (plexuslaw23_griesmer.f k)
theorem griesmer.good (k : Nat) : Vx.Good Try.prog 42 (griesmer.sp k) := two_good Try.func42 (by kernel_rfl) (by kernel_rfl) fun a b r1 r2 w h => plexuslaw23_griesmer.calls k a b r1 r2 w h
noncomputable def best.sp (k : Nat) : Vx.Spec := sTwo (plexuslaw23_best.f k)
theorem best.good (k : Nat) : Vx.Good Try.prog 44 (best.sp k) := two_good Try.func44 (by kernel_rfl) (by kernel_rfl) fun a b r1 r2 w h => plexuslaw23_best.calls k a b r1 r2 w h
noncomputable def greedy.sp (k : Nat) : Vx.Spec := ⟨[none, none], .pair (.int .i64) (.int .i64), [.im (.slice (.int .i64)), .im (.int .i64)], .one (some 2), false, fun (x : Int × Int) => plexuslaw23_greedy.f k x.1 x.2⟩
theorem greedy.good (k : Nat) : Vx.Good Try.prog 46 (greedy.sp k) := by
  refine ⟨⟨_, Try.func46, by kernel_rfl, by kernel_rfl⟩, fun x r hx w F cells hF hR => ?_⟩
  obtain ⟨c0, c1, rfl, h0, h1⟩ := hR
  obtain rfl : c0 = _ := h0
  obtain rfl : c1 = _ := h1
  obtain ⟨r1, r2⟩ := r
  refine (plexuslaw23_greedy.calls k x.1 x.2 r1 r2 w hx).mono ?_
  rintro e w' ⟨v, rfl, ho, hb⟩
  exact ⟨[v, .int .i64 r2], fun b => w.heap.size ≤ b ∧ b < w'.heap.size, rfl, hb, fun _ q => ⟨q.2, .inr q.1⟩, ⟨[v], [.int .i64 r2], rfl, im_ints ho, rfl⟩, List.Pairwise.nil⟩
noncomputable def exs.sp (k : Nat) : Vx.Spec := ⟨[], .unit, [.im .bool], .one none, false, fun _ => plexuslaw23_examples.f k⟩
theorem exs.good (k : Nat) : Vx.Good Try.prog 35 (exs.sp k) := by
  refine ⟨⟨_, Try.func35, by kernel_rfl, by kernel_rfl⟩, fun x r hx w F cells hF hR => ?_⟩
  obtain rfl : cells = [] := hR
  refine (plexuslaw23_examples.calls k r w hx).mono ?_
  rintro e w' ⟨rfl, hb⟩
  exact ⟨[.bool r], fun _ => False, rfl, hb, fun _ q => q.elim, rfl, List.Pairwise.nil⟩
end Go.Proofs.Ytcanekmlabehgaa.V23
