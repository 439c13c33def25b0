/- Contracts of functions of seal and its reference that the printed walks have shown, for the abstract executor (seat of Private). -/
import Derived.Test.YtchpkglnmpmcmaaVB
import Derived.Test.YtchpkglnmpmcmaaS47A
namespace Go.Proofs.Ytchpkglnmpmcmaa.V47
open Go Go.Vx Go.RowKit Go.Proofs.Ytchpkglnmpmcmaa.P47 Go.Proofs.YtchpkglnmpmcmaaW.PrintWords Go.Proofs.YtchpkglnmpmcmaaW.PrintLast Go.Proofs.YtchpkglnmpmcmaaW.PrintMore
set_option linter.unusedVariables false
set_option linter.unusedSimpArgs false
abbrev kU : K := .slice (.int .u64)
noncomputable def cWords.sp (k : Nat) : Vx.Spec := ⟨[none], .slice (.int .i64), [.im (.int .u64)], .one none, false, fun (x : List Int) => seal_Words.f x⟩
noncomputable def cRoot.sp (k : Nat) : Vx.Spec := ⟨[none], kU, [.im (.int .u64)], .one none, false, fun (x : List Int) => seal_Root.f k x⟩
noncomputable def cOpen.sp (k : Nat) : Vx.Spec := ⟨[none, none], .pair kU (.int .i64), [.own (.int .u64) 32, .im (.int .i64)], .tup [none, none], false, fun (x : List Int × Int) => seal_Open.f k x.1 x.2⟩
noncomputable def cCheck.sp (k : Nat) : Vx.Spec := ⟨[none, none, some 2, none], .pair (.int .u64) (.pair (.int .i64) (.pair (.pair (.int .i64) (.int .u64)) kU)), [.im (.int .i64)], .one none, false, fun (x : Int × Int × (Int × Int) × List Int) => seal_Check.f k x.1 x.2.1 x.2.2.1.1 x.2.2.1.2 x.2.2.2⟩
theorem cWords.good (k : Nat) : Vx.Good Try.prog 31 (cWords.sp k) := by
  refine ⟨⟨_, Try.func31, by kernel_rfl, by kernel_rfl⟩, fun x r hx w F cells hF hR => ?_⟩
  obtain ⟨A, c, rfl, hc, hr⟩ := arg_ints hR
  refine (seal_Words.calls A c x r w hr hc hx).mono ?_
  rintro e w' ⟨rfl, hb⟩
  exact ⟨[.int .u64 r], fun _ => False, rfl, hb, fun _ q => q.elim, rfl, List.Pairwise.nil⟩
theorem cRoot.good (k : Nat) : Vx.Good Try.prog 28 (cRoot.sp k) := by
  refine ⟨⟨_, Try.func28, by kernel_rfl, by kernel_rfl⟩, fun x r hx w F cells hF hR => ?_⟩
  obtain ⟨A, c, rfl, hc, hr⟩ := arg_ints hR
  refine (seal_Root.calls k A c x r w hr hc hx).mono ?_
  rintro e w' ⟨rfl, hb⟩
  exact ⟨[.int .u64 r], fun _ => False, rfl, hb, fun _ q => q.elim, rfl, List.Pairwise.nil⟩
theorem cOpen.good (k : Nat) : Vx.Good Try.prog 63 (cOpen.sp k) := by
  refine ⟨⟨_, Try.func63, by kernel_rfl, by kernel_rfl⟩, fun x r hx w F cells hF hR => ?_⟩
  obtain ⟨c0, c1, rfl, h0, h1⟩ := hR
  obtain rfl : c1 = _ := h1
  obtain ⟨A, c, rfl, hc, hr⟩ := arg_ints h0
  obtain ⟨r1, r2⟩ := r
  refine (seal_Open.calls k A c x.1 x.2 r1 r2 w hr hc hx).mono ?_
  rintro e w' ⟨v, rfl, ho, hb⟩
  exact ⟨[v, .int .i64 r2], fun _ => False, rfl, hb, fun _ q => q.elim, ⟨[v], [.int .i64 r2], rfl, own_ints ho (fun _ _ q => q), rfl⟩, List.pairwise_singleton _ _⟩
theorem cCheck.good (k : Nat) : Vx.Good Try.prog 65 (cCheck.sp k) := by
  refine ⟨⟨_, Try.func65, by kernel_rfl, by kernel_rfl⟩, fun x r hx w F cells hF hR => ?_⟩
  obtain ⟨c0, c1, rfl, h0, c2, c3, rfl, h1, c4, c5, rfl, ⟨c6, c7, rfl, h2, h3⟩, h4⟩ := hR
  obtain rfl : c0 = _ := h0
  obtain rfl : c2 = _ := h1
  obtain rfl : c6 = _ := h2
  obtain rfl : c7 = _ := h3
  obtain ⟨A, c, rfl, hc, hr⟩ := arg_ints h4
  refine (seal_Check.calls k x.1 x.2.1 x.2.2.1.1 x.2.2.1.2 A c x.2.2.2 r w hr hc hx).mono ?_
  rintro e w' ⟨rfl, hb⟩
  exact ⟨[.int .i64 r], fun _ => False, rfl, hb, fun _ q => q.elim, rfl, List.Pairwise.nil⟩
end Go.Proofs.Ytchpkglnmpmcmaa.V47
