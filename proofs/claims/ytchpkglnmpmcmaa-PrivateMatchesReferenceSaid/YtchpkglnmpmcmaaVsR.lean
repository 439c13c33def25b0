/- Contracts of functions of seal and its reference that the printed walks have shown, for the abstract executor (seat of Private). -/
import Derived.Test.YtchpkglnmpmcmaaVsP
import Derived.Test.YtchpkglnmpmcmaaS47B
namespace Go.Proofs.Ytchpkglnmpmcmaa.V47
open Go Go.Vx Go.RowKit Go.Proofs.Ytchpkglnmpmcmaa.P47 Go.Proofs.YtchpkglnmpmcmaaW.PrintWords Go.Proofs.YtchpkglnmpmcmaaW.PrintLast Go.Proofs.YtchpkglnmpmcmaaW.PrintMore
set_option linter.unusedVariables false
set_option linter.unusedSimpArgs false
noncomputable def rRoot.sp (k : Nat) : Vx.Spec := ⟨[none], kU, [.im (.int .u64)], .one none, false, fun (x : List Int) => plexusref03_Root.f k x⟩
noncomputable def rPath.sp (k : Nat) : Vx.Spec := ⟨[none, none], .pair kU (.int .i64), [.own (.int .u64) 32], .one none, false, fun (x : List Int × Int) => plexusref03_path.f k x.1 x.2⟩
noncomputable def rSides.sp (k : Nat) : Vx.Spec := ⟨[none, none], .pair (.int .i64) (.int .i64), [.own .bool 4], .one none, false, fun (x : Int × Int) => plexusref03_Sides.f k x.1 x.2⟩
theorem rRoot.good (k : Nat) : Vx.Good Try.prog 36 (rRoot.sp k) := by
  refine ⟨⟨_, Try.func36, by kernel_rfl, by kernel_rfl⟩, fun x r hx w F cells hF hR => ?_⟩
  obtain ⟨A, c, rfl, hc, hr⟩ := arg_ints hR
  refine (plexusref03_Root.calls k A c x r w hr hc hx).mono ?_
  rintro e w' ⟨rfl, hb⟩
  exact ⟨[.int .u64 r], fun _ => False, rfl, hb, fun _ q => q.elim, rfl, List.Pairwise.nil⟩
theorem rPath.good (k : Nat) : Vx.Good Try.prog 64 (rPath.sp k) := by
  refine ⟨⟨_, Try.func64, by kernel_rfl, by kernel_rfl⟩, fun x r hx w F cells hF hR => ?_⟩
  obtain ⟨c0, c1, rfl, h0, h1⟩ := hR
  obtain rfl : c1 = _ := h1
  obtain ⟨A, c, rfl, hc, hr⟩ := arg_ints h0
  refine (plexusref03_path.calls k A c x.1 x.2 r w hr hc hx).mono ?_
  rintro e w' ⟨v, rfl, ho, hb⟩
  exact ⟨[v], fun _ => False, rfl, hb, fun _ q => q.elim, own_ints ho (fun _ _ q => q), List.pairwise_singleton _ _⟩
theorem rSides.good (k : Nat) : Vx.Good Try.prog 66 (rSides.sp k) := by
  refine ⟨⟨_, Try.func66, by kernel_rfl, by kernel_rfl⟩, fun x r hx w F cells hF hR => ?_⟩
  obtain ⟨c0, c1, rfl, h0, h1⟩ := hR
  obtain rfl : c0 = _ := h0
  obtain rfl : c1 = _ := h1
  refine (plexusref03_Sides.calls k x.1 x.2 r w hx).mono ?_
  rintro e w' ⟨v, rfl, ho, hb⟩
  exact ⟨[v], fun _ => False, rfl, hb, fun _ q => q.elim, own_bools ho (fun _ _ q => q), List.pairwise_singleton _ _⟩
end Go.Proofs.Ytchpkglnmpmcmaa.V47
