/- Contracts of functions of seal and its reference that the printed walks have shown, for the abstract executor (seat of Edition). -/
import Derived.Test.YtjnpcpnjcieheaaGreatVB
import Derived.Test.YtjnpcpnjcieheaaGreatS47A
namespace Go.Proofs.YtjnpcpnjcieheaaGreat.V48
open Go Go.Vx Go.RowKit Go.Proofs.YtjnpcpnjcieheaaGreat.P47 Go.Proofs.YtjnpcpnjcieheaaGreatW.PrintWords Go.Proofs.YtjnpcpnjcieheaaGreatW.PrintLast Go.Proofs.YtjnpcpnjcieheaaGreatW.PrintMore
set_option linter.unusedVariables false
set_option linter.unusedSimpArgs false
abbrev kU : K := .slice (.int .u64)
noncomputable def cWords.h := hide (@seal_Words.f)
theorem cWords.hid : @seal_Words.f = cWords.h := (hide_eq _).symm
noncomputable def cWords.sp (k : Nat) : Vx.Spec := ⟨[none], .slice (.int .i64), [.im (.int .u64)], .one none, false, fun (x : List Int) => cWords.h x⟩
noncomputable def cRoot.h := hide (@seal_Root.f)
theorem cRoot.hid : @seal_Root.f = cRoot.h := (hide_eq _).symm
noncomputable def cRoot.sp (k : Nat) : Vx.Spec := ⟨[none], kU, [.im (.int .u64)], .one none, false, fun (x : List Int) => cRoot.h k x⟩
noncomputable def cOpen.h := hide (@seal_Open.f)
theorem cOpen.hid : @seal_Open.f = cOpen.h := (hide_eq _).symm
noncomputable def cOpen.sp (k : Nat) : Vx.Spec := ⟨[none, none], .pair kU (.int .i64), [.own (.int .u64) 22, .im (.int .i64)], .tup [none, none], false, fun (x : List Int × Int) => cOpen.h k x.1 x.2⟩
theorem cWords.good (k : Nat) : Vx.Good Tryz.prog 36 (cWords.sp k) := by
  refine ⟨⟨_, Tryz.func36, by kernel_rfl, by kernel_rfl⟩, fun x r hx w F cells hF hR => ?_⟩
  have hx : cWords.h x = some r := hx
  rw [← cWords.hid] at hx
  obtain ⟨A, c, rfl, hc, hr⟩ := arg_ints hR
  refine (seal_Words.calls A c x r w hr hc hx).mono ?_
  rintro e w' ⟨rfl, hb⟩
  exact ⟨[.int .u64 r], fun _ => False, rfl, hb, fun _ q => q.elim, rfl, List.Pairwise.nil⟩
theorem cRoot.good (k : Nat) : Vx.Good Tryz.prog 68 (cRoot.sp k) := by
  refine ⟨⟨_, Tryz.func68, by kernel_rfl, by kernel_rfl⟩, fun x r hx w F cells hF hR => ?_⟩
  have hx : cRoot.h k x = some r := hx
  rw [← cRoot.hid] at hx
  obtain ⟨A, c, rfl, hc, hr⟩ := arg_ints hR
  refine (seal_Root.calls k A c x r w hr hc hx).mono ?_
  rintro e w' ⟨rfl, hb⟩
  exact ⟨[.int .u64 r], fun _ => False, rfl, hb, fun _ q => q.elim, rfl, List.Pairwise.nil⟩
theorem cOpen.good (k : Nat) : Vx.Good Tryz.prog 74 (cOpen.sp k) := by
  refine ⟨⟨_, Tryz.func74, by kernel_rfl, by kernel_rfl⟩, fun x r hx w F cells hF hR => ?_⟩
  have hx : cOpen.h k x.1 x.2 = some r := hx
  rw [← cOpen.hid] at hx
  obtain ⟨c0, c1, rfl, h0, h1⟩ := hR
  obtain rfl : c1 = _ := h1
  obtain ⟨A, c, rfl, hc, hr⟩ := arg_ints h0
  obtain ⟨r1, r2⟩ := r
  refine (seal_Open.calls k A c x.1 x.2 r1 r2 w hr hc hx).mono ?_
  rintro e w' ⟨v, rfl, ho, hb⟩
  exact ⟨[v, .int .i64 r2], fun _ => False, rfl, hb, fun _ q => q.elim, ⟨[v], [.int .i64 r2], rfl, own_ints ho (fun _ _ q => q), rfl⟩, List.pairwise_singleton _ _⟩
end Go.Proofs.YtjnpcpnjcieheaaGreat.V48
