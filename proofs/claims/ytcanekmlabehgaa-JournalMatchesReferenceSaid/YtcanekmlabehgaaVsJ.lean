/- Contracts of the functions of journal that the printed walks have shown, for the abstract executor; the fixed examples by it. -/
import Derived.Test.YtcanekmlabehgaaVB
import Derived.Test.YtcanekmlabehgaaP46x3
namespace Go.Proofs.Ytcanekmlabehgaa.V46
open Go Go.Vx Go.RowKit Go.Proofs.Ytcanekmlabehgaa.P46 Go.Proofs.YtcanekmlabehgaaW.PrintWords Go.Proofs.YtcanekmlabehgaaW.PrintLast Go.Proofs.YtcanekmlabehgaaW.PrintMore
set_option linter.unusedVariables false
set_option linter.unusedSimpArgs false
abbrev kY : K := .slice (.int .u8)
abbrev kI : K := .slice (.int .i64)
abbrev kR : K := .slice kI
noncomputable def sPut (k : Nat) : Vx.Spec := ⟨[none, none], .pair kY kI, [.own (.int .u8) 5], .one none, false, fun (x : List Int × List Int) => plexuslaw46_put.f k x.1 x.2⟩
noncomputable def sJPut (k : Nat) : Vx.Spec := ⟨[none, none], .pair kY kI, [.own (.int .u8) 5, .im (.int .i64)], .tup [none, none], false, fun (x : List Int × List Int) => journal_Put.f k x.1 x.2⟩
noncomputable def sRead (k : Nat) : Vx.Spec := ⟨[none], kY, [.im kR, .im kY, .im (.int .i64)], .one (some 3), false, fun (x : List Int) => plexuslaw46_read.f k x⟩
noncomputable def sRecs (k : Nat) : Vx.Spec := ⟨[none, none], .pair kR kR, [.im .bool], .one none, false, fun (x : List (List Int) × List (List Int)) => plexusref46_Records.f k x.1 x.2⟩
noncomputable def sWhole (k : Nat) : Vx.Spec := ⟨[none], kY, [.own (.int .u8) 5], .one none, false, fun (x : List Int) => journal_Whole.f k x⟩
noncomputable def sTag : Vx.Spec := ⟨[none, none], .pair (.int .u64) kI, [.im (.int .u64)], .one none, false, fun (x : Int × List Int) => seal_Tag.f x.1 x.2⟩
theorem sPut_good (k : Nat) : Vx.Good Try.prog 34 (sPut k) := by
  refine ⟨⟨_, Try.func34, by kernel_rfl, by kernel_rfl⟩, fun x r hx w F cells hF hR => ?_⟩
  obtain ⟨c0, c1, rfl, h0, h1⟩ := hR
  obtain ⟨A, c, rfl, hc, hr⟩ := arg_ints h0
  obtain ⟨A', c', rfl, hc', hr'⟩ := arg_ints h1
  refine (plexuslaw46_put.calls k A c x.1 A' c' x.2 r w hr hc hr' hc' hx).mono ?_
  rintro e w' ⟨v, rfl, ho, hb⟩
  exact ⟨[v], fun _ => False, rfl, hb, fun _ q => q.elim, own_ints ho (fun _ _ q => q), List.pairwise_singleton _ _⟩
theorem sJPut_good (k : Nat) : Vx.Good Try.prog 27 (sJPut k) := by
  refine ⟨⟨_, Try.func27, by kernel_rfl, by kernel_rfl⟩, fun x r hx w F cells hF hR => ?_⟩
  obtain ⟨c0, c1, rfl, h0, h1⟩ := hR
  obtain ⟨A, c, rfl, hc, hr⟩ := arg_ints h0
  obtain ⟨A', c', rfl, hc', hr'⟩ := arg_ints h1
  obtain ⟨r1, r2⟩ := r
  refine (journal_Put.calls k A c x.1 A' c' x.2 r1 r2 w hr hc hr' hc' hx).mono ?_
  rintro e w' ⟨v, rfl, ho, hb⟩
  exact ⟨[v, .int .i64 r2], fun _ => False, rfl, hb, fun _ q => q.elim, ⟨[v], [.int .i64 r2], rfl, own_ints ho (fun _ _ q => q), rfl⟩, List.pairwise_singleton _ _⟩
theorem sRead_good (k : Nat) : Vx.Good Try.prog 26 (sRead k) := by
  refine ⟨⟨_, Try.func26, by kernel_rfl, by kernel_rfl⟩, fun x r hx w F cells hF hR => ?_⟩
  obtain ⟨A, c, rfl, hc, hr⟩ := arg_ints hR
  obtain ⟨r1, r2, r3⟩ := r
  refine (plexuslaw46_read.calls k A c x r1 r2 r3 w hr hc hx).mono ?_
  rintro e w' ⟨v, u, rfl, ho, hp, hb⟩
  exact ⟨[v, u, .int .i64 r3], fun b => w.heap.size ≤ b ∧ b < w'.heap.size, rfl, hb, fun _ q => ⟨q.2, .inr q.1⟩, ⟨[v], [u, .int .i64 r3], rfl, im_rows ho, [u], [.int .i64 r3], rfl, im_ints hp, rfl⟩, List.Pairwise.nil⟩
theorem sRecs_good (k : Nat) : Vx.Good Try.prog 29 (sRecs k) := by
  refine ⟨⟨_, Try.func29, by kernel_rfl, by kernel_rfl⟩, fun x r hx w F cells hF hR => ?_⟩
  obtain ⟨c0, c1, rfl, h0, h1⟩ := hR
  obtain ⟨A, c, rfl, hc, hr⟩ := arg_rows (e := 3) h0
  obtain ⟨A', c', rfl, hc', hr'⟩ := arg_rows (e := 3) h1
  refine (plexusref46_Records.calls k A c x.1 A' c' x.2 r w hr hc hr' hc' hx).mono ?_
  rintro e w' ⟨rfl, hb⟩
  exact ⟨[.bool r], fun _ => False, rfl, hb.below, fun _ q => q.elim, rfl, List.Pairwise.nil⟩
theorem sWhole_good (k : Nat) : Vx.Good Try.prog 31 (sWhole k) := by
  refine ⟨⟨_, Try.func31, by kernel_rfl, by kernel_rfl⟩, fun x r hx w F cells hF hR => ?_⟩
  obtain ⟨A, c, rfl, hc, hr⟩ := arg_ints hR
  refine (journal_Whole.calls k A c x r w hr hc hx).mono ?_
  rintro e w' ⟨v, rfl, ho, hb⟩
  exact ⟨[v], fun _ => False, rfl, hb, fun _ q => q.elim, own_ints ho (fun _ _ q => q), List.pairwise_singleton _ _⟩
theorem sTag_good : Vx.Good Try.prog 73 sTag := by
  refine ⟨⟨_, Try.func73, by kernel_rfl, by kernel_rfl⟩, fun x r hx w F cells hF hR => ?_⟩
  obtain ⟨c0, c1, rfl, h0, h1⟩ := hR
  obtain rfl : c0 = _ := h0
  obtain ⟨A, c, rfl, hc, hr⟩ := arg_ints h1
  refine (seal_Tag.calls x.1 A c x.2 r w hr hc hx).mono ?_
  rintro e w' ⟨rfl, hb⟩
  exact ⟨[.int .u64 r], fun _ => False, rfl, hb, fun _ q => q.elim, rfl, List.Pairwise.nil⟩
noncomputable def fnsJ (k : Nat) : Fns := [(34, sPut k), (26, sRead k), (27, sJPut k), (73, sTag), (29, sRecs k), (31, sWhole k)]
theorem fnsJ_good (k : Nat) : (fnsJ k).good Try.prog := by
  intro f sp h
  simp only [fnsJ, Fns.get] at h
  by_cases e1 : f = 34
  · subst e1; obtain rfl := Option.some.inj h; exact sPut_good k
  rw [beq_ne e1] at h
  by_cases e2 : f = 26
  · subst e2; obtain rfl := Option.some.inj h; exact sRead_good k
  rw [beq_ne e2] at h
  by_cases e3 : f = 27
  · subst e3; obtain rfl := Option.some.inj h; exact sJPut_good k
  rw [beq_ne e3] at h
  by_cases e4 : f = 73
  · subst e4; obtain rfl := Option.some.inj h; exact sTag_good
  rw [beq_ne e4] at h
  by_cases e5 : f = 29
  · subst e5; obtain rfl := Option.some.inj h; exact sRecs_good k
  rw [beq_ne e5] at h
  by_cases e6 : f = 31
  · subst e6; obtain rfl := Option.some.inj h; exact sWhole_good k
  rw [beq_ne e6] at h
  cases h
noncomputable def bodyOf (f : Func) : Code := f.body.getD .skip
noncomputable def sExs : Vx.Spec := ⟨[], .unit, [.im .bool], .one none, false, fun _ => some true⟩
theorem exs_run : execF Try.prog (fnsJ 100) [] 100 sExs Try.f22.ntmps Try.f22.results.toList (bodyOf Try.f22) () = some true := by kernel_rfl
theorem sExs_good : Vx.Good Try.prog 22 sExs :=
  good_of Try.func22 (show Try.f22.body = some (bodyOf Try.f22) by kernel_rfl) (by kernel_rfl) (by kernel_rfl) fun x r hx => ⟨fnsJ 100, [], 100, fnsJ_good 100, by
    obtain rfl := Option.some.inj hx
    exact exs_run⟩
end Go.Proofs.Ytcanekmlabehgaa.V46
