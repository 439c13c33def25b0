/- Contracts of functions of seal and its reference that the printed walks have shown, for the abstract executor (seat of Edition). -/
import Derived.Test.YtjnpcpnjcieheaaGreatVsP
import Derived.Test.YtjnpcpnjcieheaaGreatS47B
namespace Go.Proofs.YtjnpcpnjcieheaaGreat.V48
open Go Go.Vx Go.RowKit Go.Proofs.YtjnpcpnjcieheaaGreat.P47 Go.Proofs.YtjnpcpnjcieheaaGreatW.PrintWords Go.Proofs.YtjnpcpnjcieheaaGreatW.PrintLast Go.Proofs.YtjnpcpnjcieheaaGreatW.PrintMore
set_option linter.unusedVariables false
set_option linter.unusedSimpArgs false
noncomputable def rRoot.h := hide (@plexusref03_Root.f)
theorem rRoot.hid : @plexusref03_Root.f = rRoot.h := (hide_eq _).symm
noncomputable def rRoot.sp (k : Nat) : Vx.Spec := ⟨[none], kU, [.im (.int .u64)], .one none, false, fun (x : List Int) => rRoot.h k x⟩
noncomputable def rPath.h := hide (@plexusref03_path.f)
theorem rPath.hid : @plexusref03_path.f = rPath.h := (hide_eq _).symm
noncomputable def rPath.sp (k : Nat) : Vx.Spec := ⟨[none, none], .pair kU (.int .i64), [.own (.int .u64) 22], .one none, false, fun (x : List Int × Int) => rPath.h k x.1 x.2⟩
noncomputable def rSides.h := hide (@plexusref03_Sides.f)
theorem rSides.hid : @plexusref03_Sides.f = rSides.h := (hide_eq _).symm
noncomputable def rSides.sp (k : Nat) : Vx.Spec := ⟨[none, none], .pair (.int .i64) (.int .i64), [.own .bool 4], .one none, false, fun (x : Int × Int) => rSides.h k x.1 x.2⟩
theorem rRoot.good (k : Nat) : Vx.Good Tryz.prog 48 (rRoot.sp k) := by
  refine ⟨⟨_, Tryz.func48, by kernel_rfl, by kernel_rfl⟩, fun x r hx w F cells hF hR => ?_⟩
  have hx : rRoot.h k x = some r := hx
  rw [← rRoot.hid] at hx
  obtain ⟨A, c, rfl, hc, hr⟩ := arg_ints hR
  refine (plexusref03_Root.calls k A c x r w hr hc hx).mono ?_
  rintro e w' ⟨rfl, hb⟩
  exact ⟨[.int .u64 r], fun _ => False, rfl, hb, fun _ q => q.elim, rfl, List.Pairwise.nil⟩
theorem rPath.good (k : Nat) : Vx.Good Tryz.prog 75 (rPath.sp k) := by
  refine ⟨⟨_, Tryz.func75, by kernel_rfl, by kernel_rfl⟩, fun x r hx w F cells hF hR => ?_⟩
  have hx : rPath.h k x.1 x.2 = some r := hx
  rw [← rPath.hid] at hx
  obtain ⟨c0, c1, rfl, h0, h1⟩ := hR
  obtain rfl : c1 = _ := h1
  obtain ⟨A, c, rfl, hc, hr⟩ := arg_ints h0
  refine (plexusref03_path.calls k A c x.1 x.2 r w hr hc hx).mono ?_
  rintro e w' ⟨v, rfl, ho, hb⟩
  exact ⟨[v], fun _ => False, rfl, hb, fun _ q => q.elim, own_ints ho (fun _ _ q => q), List.pairwise_singleton _ _⟩
theorem rSides.good (k : Nat) : Vx.Good Tryz.prog 77 (rSides.sp k) := by
  refine ⟨⟨_, Tryz.func77, by kernel_rfl, by kernel_rfl⟩, fun x r hx w F cells hF hR => ?_⟩
  have hx : rSides.h k x.1 x.2 = some r := hx
  rw [← rSides.hid] at hx
  obtain ⟨c0, c1, rfl, h0, h1⟩ := hR
  obtain rfl : c0 = _ := h0
  obtain rfl : c1 = _ := h1
  refine (plexusref03_Sides.calls k x.1 x.2 r w hx).mono ?_
  rintro e w' ⟨v, rfl, ho, hb⟩
  exact ⟨[v], fun _ => False, rfl, hb, fun _ q => q.elim, own_bools ho (fun _ _ q => q), List.pairwise_singleton _ _⟩
end Go.Proofs.YtjnpcpnjcieheaaGreat.V48
