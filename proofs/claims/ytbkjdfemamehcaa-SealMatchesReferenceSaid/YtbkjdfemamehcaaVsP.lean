/- Contracts of functions of seal and its reference that the printed walks have shown, for the abstract executor (seat of Private). -/
import Derived.Test.YtbkjdfemamehcaaVB
import Derived.Test.YtbkjdfemamehcaaS03A
import Derived.Test.YtbkjdfemamehcaaS03B
import Derived.Test.YtbkjdfemamehcaaTBytes2
namespace Go.Proofs.Ytbkjdfemamehcaa.V03
open Go Go.Vx Go.RowKit Go.Proofs.Ytbkjdfemamehcaa.P03 Go.Proofs.YtbkjdfemamehcaaW.PrintWords Go.Proofs.YtbkjdfemamehcaaW.PrintLast Go.Proofs.YtbkjdfemamehcaaW.PrintMore
set_option linter.unusedVariables false
set_option linter.unusedSimpArgs false
abbrev kU : K := .slice (.int .u64)
noncomputable def cWords.h := hide (@seal_Words.f)
theorem cWords.hid : @seal_Words.f = cWords.h := (hide_eq _).symm
noncomputable def cWords.sp (k : Nat) : Vx.Spec := ⟨[none], .slice (.int .i64), [.im (.int .u64)], .one none, false, fun (x : List Int) => cWords.h x⟩
noncomputable def cRoot.h := hide (@seal_Root.f)
theorem cRoot.hid : @seal_Root.f = cRoot.h := (hide_eq _).symm
noncomputable def cRoot.sp (k : Nat) : Vx.Spec := ⟨[none], kU, [.im (.int .u64)], .one none, false, fun (x : List Int) => cRoot.h k x⟩
noncomputable def cOpen.h := hide (@seal_Open.f)
theorem cOpen.hid : @seal_Open.f = cOpen.h := (hide_eq _).symm
noncomputable def cOpen.sp (k : Nat) : Vx.Spec := ⟨[none, none], .pair kU (.int .i64), [.own (.int .u64) 22, .im (.int .i64)], .tup [none, none], false, fun (x : List Int × Int) => cOpen.h k x.1 x.2⟩
noncomputable def cCheck.h := hide (@seal_Check.f)
theorem cCheck.hid : @seal_Check.f = cCheck.h := (hide_eq _).symm
noncomputable def cCheck.sp (k : Nat) : Vx.Spec := ⟨[none, none, some 2, none], .pair (.int .u64) (.pair (.int .i64) (.pair (.pair (.int .i64) (.int .u64)) kU)), [.im (.int .i64)], .one none, false, fun (x : Int × Int × (Int × Int) × List Int) => cCheck.h k x.1 x.2.1 x.2.2.1.1 x.2.2.1.2 x.2.2.2⟩
noncomputable def rRoot.h := hide (@plexusref03_Root.f)
theorem rRoot.hid : @plexusref03_Root.f = rRoot.h := (hide_eq _).symm
noncomputable def rRoot.sp (k : Nat) : Vx.Spec := ⟨[none], kU, [.im (.int .u64)], .one none, false, fun (x : List Int) => rRoot.h k x⟩
noncomputable def rPath.h := hide (@plexusref03_path.f)
theorem rPath.hid : @plexusref03_path.f = rPath.h := (hide_eq _).symm
noncomputable def rPath.sp (k : Nat) : Vx.Spec := ⟨[none, none], .pair kU (.int .i64), [.own (.int .u64) 22], .one none, false, fun (x : List Int × Int) => rPath.h k x.1 x.2⟩
noncomputable def rSides.h := hide (@plexusref03_Sides.f)
theorem rSides.hid : @plexusref03_Sides.f = rSides.h := (hide_eq _).symm
noncomputable def rSides.sp (k : Nat) : Vx.Spec := ⟨[none, none], .pair (.int .i64) (.int .i64), [.own .bool 4], .one none, false, fun (x : Int × Int) => rSides.h k x.1 x.2⟩
theorem cWords.good (k : Nat) : Vx.Good Try.prog 21 (cWords.sp k) := by
  refine ⟨⟨_, Try.func21, by kernel_rfl, by kernel_rfl⟩, fun x r hx w F cells hF hR => ?_⟩
  have hx : cWords.h x = some r := hx
  rw [← cWords.hid] at hx
  obtain ⟨A, c, rfl, hc, hr⟩ := arg_ints hR
  refine (seal_Words.calls A c x r w hr hc hx).mono ?_
  rintro e w' ⟨rfl, hb⟩
  exact ⟨[.int .u64 r], fun _ => False, rfl, hb, fun _ q => q.elim, rfl, List.Pairwise.nil⟩
theorem cRoot.good (k : Nat) : Vx.Good Try.prog 13 (cRoot.sp k) := by
  refine ⟨⟨_, Try.func13, by kernel_rfl, by kernel_rfl⟩, fun x r hx w F cells hF hR => ?_⟩
  have hx : cRoot.h k x = some r := hx
  rw [← cRoot.hid] at hx
  obtain ⟨A, c, rfl, hc, hr⟩ := arg_ints hR
  refine (seal_Root.calls k A c x r w hr hc hx).mono ?_
  rintro e w' ⟨rfl, hb⟩
  exact ⟨[.int .u64 r], fun _ => False, rfl, hb, fun _ q => q.elim, rfl, List.Pairwise.nil⟩
theorem rRoot.good (k : Nat) : Vx.Good Try.prog 29 (rRoot.sp k) := by
  refine ⟨⟨_, Try.func29, by kernel_rfl, by kernel_rfl⟩, fun x r hx w F cells hF hR => ?_⟩
  have hx : rRoot.h k x = some r := hx
  rw [← rRoot.hid] at hx
  obtain ⟨A, c, rfl, hc, hr⟩ := arg_ints hR
  refine (plexusref03_Root.calls k A c x r w hr hc hx).mono ?_
  rintro e w' ⟨rfl, hb⟩
  exact ⟨[.int .u64 r], fun _ => False, rfl, hb, fun _ q => q.elim, rfl, List.Pairwise.nil⟩
theorem cOpen.good (k : Nat) : Vx.Good Try.prog 35 (cOpen.sp k) := by
  refine ⟨⟨_, Try.func35, by kernel_rfl, by kernel_rfl⟩, fun x r hx w F cells hF hR => ?_⟩
  have hx : cOpen.h k x.1 x.2 = some r := hx
  rw [← cOpen.hid] at hx
  obtain ⟨c0, c1, rfl, h0, h1⟩ := hR
  obtain rfl : c1 = _ := h1
  obtain ⟨A, c, rfl, hc, hr⟩ := arg_ints h0
  obtain ⟨r1, r2⟩ := r
  refine (seal_Open.calls k A c x.1 x.2 r1 r2 w hr hc hx).mono ?_
  rintro e w' ⟨v, rfl, ho, hb⟩
  exact ⟨[v, .int .i64 r2], fun _ => False, rfl, hb, fun _ q => q.elim, ⟨[v], [.int .i64 r2], rfl, own_ints ho (fun _ _ q => q), rfl⟩, List.pairwise_singleton _ _⟩
theorem rPath.good (k : Nat) : Vx.Good Try.prog 42 (rPath.sp k) := by
  refine ⟨⟨_, Try.func42, by kernel_rfl, by kernel_rfl⟩, fun x r hx w F cells hF hR => ?_⟩
  have hx : rPath.h k x.1 x.2 = some r := hx
  rw [← rPath.hid] at hx
  obtain ⟨c0, c1, rfl, h0, h1⟩ := hR
  obtain rfl : c1 = _ := h1
  obtain ⟨A, c, rfl, hc, hr⟩ := arg_ints h0
  refine (plexusref03_path.calls k A c x.1 x.2 r w hr hc hx).mono ?_
  rintro e w' ⟨v, rfl, ho, hb⟩
  exact ⟨[v], fun _ => False, rfl, hb, fun _ q => q.elim, own_ints ho (fun _ _ q => q), List.pairwise_singleton _ _⟩
theorem rSides.good (k : Nat) : Vx.Good Try.prog 17 (rSides.sp k) := by
  refine ⟨⟨_, Try.func17, by kernel_rfl, by kernel_rfl⟩, fun x r hx w F cells hF hR => ?_⟩
  have hx : rSides.h k x.1 x.2 = some r := hx
  rw [← rSides.hid] at hx
  obtain ⟨c0, c1, rfl, h0, h1⟩ := hR
  obtain rfl : c0 = _ := h0
  obtain rfl : c1 = _ := h1
  refine (plexusref03_Sides.calls k x.1 x.2 r w hx).mono ?_
  rintro e w' ⟨v, rfl, ho, hb⟩
  exact ⟨[v], fun _ => False, rfl, hb, fun _ q => q.elim, own_bools ho (fun _ _ q => q), List.pairwise_singleton _ _⟩
theorem cCheck.good (k : Nat) : Vx.Good Try.prog 36 (cCheck.sp k) := by
  refine ⟨⟨_, Try.func36, by kernel_rfl, by kernel_rfl⟩, fun x r hx w F cells hF hR => ?_⟩
  have hx : cCheck.h k x.1 x.2.1 x.2.2.1.1 x.2.2.1.2 x.2.2.2 = some r := hx
  rw [← cCheck.hid] at hx
  obtain ⟨c0, c1, rfl, h0, c2, c3, rfl, h1, c4, c5, rfl, ⟨c6, c7, rfl, h2, h3⟩, h4⟩ := hR
  obtain rfl : c0 = _ := h0
  obtain rfl : c2 = _ := h1
  obtain rfl : c6 = _ := h2
  obtain rfl : c7 = _ := h3
  obtain ⟨A, c, rfl, hc, hr⟩ := arg_ints h4
  refine (seal_Check.calls k x.1 x.2.1 x.2.2.1.1 x.2.2.1.2 A c x.2.2.2 r w hr hc hx).mono ?_
  rintro e w' ⟨rfl, hb⟩
  exact ⟨[.int .i64 r], fun _ => False, rfl, hb, fun _ q => q.elim, rfl, List.Pairwise.nil⟩
noncomputable def cBytes.h := hide (@seal_Bytes.f)
theorem cBytes.hid : @seal_Bytes.f = cBytes.h := (hide_eq _).symm
noncomputable def cBytes.sp (k : Nat) : Vx.Spec := ⟨[none], .slice (.int .u8), [.im (.int .u64)], .one none, false, fun (x : List Int) => cBytes.h x⟩
theorem cBytes.good (k : Nat) : Vx.Good Try.prog 23 (cBytes.sp k) := by
  refine ⟨⟨_, Try.func23, by kernel_rfl, by kernel_rfl⟩, fun x r hx w F cells hF hR => ?_⟩
  have hx : cBytes.h x = some r := hx
  rw [← cBytes.hid] at hx
  obtain ⟨A, c, rfl, hc, hr⟩ := arg_ints hR
  refine (seal_Bytes.calls A c x r w hr hc hx).mono ?_
  rintro e w' ⟨rfl, hb⟩
  exact ⟨[.int .u64 r], fun _ => False, rfl, hb, fun _ q => q.elim, rfl, List.Pairwise.nil⟩
end Go.Proofs.Ytbkjdfemamehcaa.V03
