/- Contracts of the functions of seal that the printed walks have shown, for the abstract executor. -/
import Derived.Test.YtcanekmlabehgaaVo
import Derived.Test.YtcanekmlabehgaaP03y8
namespace Go.Proofs.Ytcanekmlabehgaa.V03
open Go Go.Vx Go.RowKit Go.Proofs.Ytcanekmlabehgaa.P03 Go.Proofs.YtcanekmlabehgaaW.PrintWords Go.Proofs.YtcanekmlabehgaaW.PrintLast Go.Proofs.YtcanekmlabehgaaW.PrintMore
set_option linter.unusedVariables false
set_option linter.unusedSimpArgs false
abbrev kU : K := .slice (.int .u64)
noncomputable def sEx (k : Nat) : Vx.Spec := ⟨[], .unit, [.im .bool], .one none, false, fun _ => plexuslaw03_examples.f k⟩
noncomputable def sGrown (k : Nat) : Vx.Spec := ⟨[none, none], .pair kU (.int .i64), [.own (.int .u64) 72], .one none, false, fun (x : List Int × Int) => plexusref03_Grown.f k x.1 x.2⟩
noncomputable def sRoot (k : Nat) : Vx.Spec := ⟨[none], kU, [.im (.int .u64)], .one none, false, fun (x : List Int) => seal_Root.f k x⟩
noncomputable def sOpened (k : Nat) : Vx.Spec := ⟨[none, none], .pair kU (.int .i64), [.own (.int .u64) 72, .im (.int .i64)], .one (some 2), false, fun (x : List Int × Int) => plexuslaw03_opened.f k x.1 x.2⟩
noncomputable def sCheck (k : Nat) : Vx.Spec := ⟨[none, some 2, some 2], .pair (.int .u64) (.pair (.pair (.int .i64) kU) (.pair (.int .i64) (.int .u64))), [.im (.int .i64)], .one none, false, fun (x : Int × (Int × List Int) × Int × Int) => plexuslaw03_check.f k x.1 x.2.1.1 x.2.1.2 x.2.2.1 x.2.2.2⟩
noncomputable def sSides (k : Nat) : Vx.Spec := ⟨[none, none], .pair (.int .i64) (.int .i64), [.own .bool 4], .one none, false, fun (x : Int × Int) => plexusref03_Sides.f k x.1 x.2⟩
noncomputable def sUp : Vx.Spec := ⟨[none, none, none], .pair (.int .u64) (.pair (.int .u64) .bool), [.im (.int .u64)], .one none, false, fun (x : Int × Int × Bool) => plexusref03_Up.f x.1 x.2.1 x.2.2⟩
noncomputable def fnsB (k : Nat) : Fns := [(55, sEx k), (58, sGrown k), (59, sRoot k), (60, sOpened k), (61, sCheck k), (63, sSides k), (64, sUp)]
theorem hFnil (b : Nat) (h : False) : b < 0 ∧ ((false = true ∧ False) ∨ 0 ≤ b) := h.elim
theorem sEx_good (k : Nat) : Vx.Good Try.prog 55 (sEx k) := by
  refine ⟨⟨_, Try.func55, by kernel_rfl, by kernel_rfl⟩, fun x r hx w F cells hF hR => ?_⟩
  obtain rfl : cells = [] := hR
  refine (plexuslaw03_examples.calls k r w hx).mono ?_
  rintro e w' ⟨rfl, hb⟩
  exact ⟨[.bool r], fun _ => False, rfl, hb, fun _ q => q.elim, rfl, List.Pairwise.nil⟩
theorem sRoot_good (k : Nat) : Vx.Good Try.prog 59 (sRoot k) := by
  refine ⟨⟨_, Try.func59, by kernel_rfl, by kernel_rfl⟩, fun x r hx w F cells hF hR => ?_⟩
  obtain ⟨A, c, rfl, hc, hr⟩ := arg_ints hR
  refine (seal_Root.calls k A c x r w hr hc hx).mono ?_
  rintro e w' ⟨rfl, hb⟩
  exact ⟨[.int .u64 r], fun _ => False, rfl, hb, fun _ q => q.elim, rfl, List.Pairwise.nil⟩
theorem sUp_good : Vx.Good Try.prog 64 sUp := by
  refine ⟨⟨_, Try.func64, by kernel_rfl, by kernel_rfl⟩, fun x r hx w F cells hF hR => ?_⟩
  obtain ⟨c0, c1, rfl, h0, c2, c3, rfl, h1, h2⟩ := hR
  obtain rfl : c0 = _ := h0
  obtain rfl : c2 = _ := h1
  obtain rfl : c3 = _ := h2
  refine (plexusref03_Up.calls x.1 x.2.1 x.2.2 r w hx).mono ?_
  rintro e w' ⟨rfl, hb⟩
  exact ⟨[.int .u64 r], fun _ => False, rfl, hb.below, fun _ q => q.elim, rfl, List.Pairwise.nil⟩
theorem sCheck_good (k : Nat) : Vx.Good Try.prog 61 (sCheck k) := by
  refine ⟨⟨_, Try.func61, by kernel_rfl, by kernel_rfl⟩, fun x r hx w F cells hF hR => ?_⟩
  obtain ⟨c0, c1, rfl, h0, c2, c3, rfl, ⟨c4, c5, rfl, h1, h2⟩, c6, c7, rfl, h3, h4⟩ := hR
  obtain rfl : c0 = _ := h0
  obtain rfl : c4 = _ := h1
  obtain rfl : c6 = _ := h3
  obtain rfl : c7 = _ := h4
  obtain ⟨A, c, rfl, hc, hr⟩ := arg_ints h2
  refine (plexuslaw03_check.calls k x.1 x.2.1.1 A c x.2.1.2 x.2.2.1 x.2.2.2 r w hr hc hx).mono ?_
  rintro e w' ⟨rfl, hb⟩
  exact ⟨[.int .i64 r], fun _ => False, rfl, hb, fun _ q => q.elim, rfl, List.Pairwise.nil⟩
theorem sGrown_good (k : Nat) : Vx.Good Try.prog 58 (sGrown k) := by
  refine ⟨⟨_, Try.func58, by kernel_rfl, by kernel_rfl⟩, fun x r hx w F cells hF hR => ?_⟩
  obtain ⟨c0, c1, rfl, h0, h1⟩ := hR
  obtain rfl : c1 = _ := h1
  obtain ⟨A, c, rfl, hc, hr⟩ := arg_ints h0
  refine (plexusref03_Grown.calls k A c x.1 x.2 r w hr hc hx).mono ?_
  rintro e w' ⟨v, rfl, ho, hb⟩
  exact ⟨[v], fun _ => False, rfl, hb, fun _ q => q.elim, own_ints ho (fun _ _ q => q), List.pairwise_singleton _ _⟩
theorem sSides_good (k : Nat) : Vx.Good Try.prog 63 (sSides k) := by
  refine ⟨⟨_, Try.func63, by kernel_rfl, by kernel_rfl⟩, fun x r hx w F cells hF hR => ?_⟩
  obtain ⟨c0, c1, rfl, h0, h1⟩ := hR
  obtain rfl : c0 = _ := h0
  obtain rfl : c1 = _ := h1
  refine (plexusref03_Sides.calls k x.1 x.2 r w hx).mono ?_
  rintro e w' ⟨v, rfl, ho, hb⟩
  exact ⟨[v], fun _ => False, rfl, hb, fun _ q => q.elim, own_bools ho (fun _ _ q => q), List.pairwise_singleton _ _⟩
theorem sOpened_good (k : Nat) : Vx.Good Try.prog 60 (sOpened k) := by
  refine ⟨⟨_, Try.func60, by kernel_rfl, by kernel_rfl⟩, fun x r hx w F cells hF hR => ?_⟩
  obtain ⟨c0, c1, rfl, h0, h1⟩ := hR
  obtain rfl : c1 = _ := h1
  obtain ⟨A, c, rfl, hc, hr⟩ := arg_ints h0
  obtain ⟨r1, r2⟩ := r
  refine (plexuslaw03_opened.calls k A c x.1 x.2 r1 r2 w hr hc hx).mono ?_
  rintro e w' ⟨v, rfl, ho, hb⟩
  exact ⟨[v, .int .i64 r2], fun _ => False, rfl, hb, fun _ q => q.elim, ⟨[v], [.int .i64 r2], rfl, own_ints ho (fun _ _ q => q), rfl⟩, List.pairwise_singleton _ _⟩
theorem fnsB_good (k : Nat) : (fnsB k).good Try.prog := by
  intro f sp h
  simp only [fnsB, Fns.get] at h
  by_cases e1 : f = 55
  · subst e1; obtain rfl := Option.some.inj h; exact sEx_good k
  rw [beq_ne e1] at h
  by_cases e2 : f = 58
  · subst e2; obtain rfl := Option.some.inj h; exact sGrown_good k
  rw [beq_ne e2] at h
  by_cases e3 : f = 59
  · subst e3; obtain rfl := Option.some.inj h; exact sRoot_good k
  rw [beq_ne e3] at h
  by_cases e4 : f = 60
  · subst e4; obtain rfl := Option.some.inj h; exact sOpened_good k
  rw [beq_ne e4] at h
  by_cases e5 : f = 61
  · subst e5; obtain rfl := Option.some.inj h; exact sCheck_good k
  rw [beq_ne e5] at h
  by_cases e6 : f = 63
  · subst e6; obtain rfl := Option.some.inj h; exact sSides_good k
  rw [beq_ne e6] at h
  by_cases e7 : f = 64
  · subst e7; obtain rfl := Option.some.inj h; exact sUp_good
  rw [beq_ne e7] at h
  cases h
noncomputable def bodyOf (f : Func) : Code := f.body.getD .skip
/-- The law's own contract (what it computes is told by another text). -/
noncomputable def spB (run : List Int → Int → Int → Int → Int → Option Bool) : Vx.Spec := ⟨[none, some 2, some 2], .pair kU (.pair (.pair (.int .u16) (.int .u16)) (.pair (.int .i64) (.int .u64))), [.im .bool], .one none, false, fun (x : List Int × (Int × Int) × Int × Int) => run x.1 x.2.1.1 x.2.1.2 x.2.2.1 x.2.2.2⟩
end Go.Proofs.Ytcanekmlabehgaa.V03
/- The law SealBinds: its equations, as the abstract executor tells them, and its contract. -/
namespace Go.Proofs.Ytcanekmlabehgaa.V03
open Go Go.Vx Go.RowKit Go.Proofs.Ytcanekmlabehgaa.P03 Go.Proofs.YtcanekmlabehgaaW.PrintWords Go.Proofs.YtcanekmlabehgaaW.PrintLast Go.Proofs.YtcanekmlabehgaaW.PrintMore
set_option linter.unusedVariables false
set_option linter.unusedSimpArgs false
set_option maxRecDepth 100000
def binds.ann : List (Nat × Ann) := [(1000016, ⟨[18, 19, 97, 98, 99, 100, 101, 102, 103, 104, 105, 106, 107, 108, 109, 110, 111, 112, 113, 114, 115, 116, 117, 118, 119, 120, 121, 122, 123, 124, 125, 126, 127, 128, 129, 130, 131, 132, 133, 134, 135, 136, 137, 138, 139, 140, 141, 142, 143, 145, 146, 147, 148, 149, 150, 151, 152, 153, 154, 155, 156, 157, 158, 159], []⟩)]
noncomputable def binds.l0 (n_ k : Nat)  (l : List Int) (a : Int) (b : Int) (c : Int) (d : Int) (r4 : Bool) (r20 : List Int) (r35 : Int) (r39 : List Int × Int) (r116 : Int) (r140 : List Bool) (v10 : Int) (v11 : Int) (v12 : Bool) (v13 : Int) : Option (Bool) :=
  loopK n_ (exec Try.prog (fnsB k) binds.ann k (subC [1, 1, 1, 1, 1, 1, 1, 1, 1, 1, 1, 1, 0, 1, 0, 0] (bodyOf Try.f19))) (nmOf binds.ann (subC [1, 1, 1, 1, 1, 1, 1, 1, 1, 1, 1, 1, 0, 1, 0, 0] (bodyOf Try.f19))) ({ tmps := [AV.sh (K.int IntKind.u64) l, AV.agg [AV.val (Value.int IntKind.u16 (a, b).fst), AV.val (Value.int IntKind.u16 (a, b).snd)], AV.agg [AV.val (Value.int IntKind.i64 (c, d).fst), AV.val (Value.int IntKind.u64 (c, d).snd)], AV.dead, AV.ptr 0 0, AV.ptr 1 0, AV.val (Value.bool false), AV.val (Value.bool r4), AV.own 2, AV.val (Value.int IntKind.i64 (divF BinOp.rem IntKind.i64 (IntKind.wrap IntKind.i64 b) (↑(List.length r20) : Int))), AV.val (Value.int IntKind.u64 r35), AV.ptr 3 0, AV.sh (K.int IntKind.u64) (List.take (Int.toNat (mnF (↑(List.length l) : Int) (↑(List.length r39.1) : Int))) l), AV.own 4, AV.val (Value.int IntKind.u64 v10), AV.val (Value.int IntKind.u64 v11), AV.val (Value.bool v12), AV.val (Value.int IntKind.i64 v13), AV.dead, AV.dead, AV.val (Value.bool r4), AV.val (Value.bool r4), AV.val (Value.bool !r4), AV.sh (K.int IntKind.u64) l, AV.ptr 0 0, AV.val (Value.int IntKind.u16 (a, b).fst), AV.val (Value.int IntKind.u16 (divF BinOp.rem IntKind.u16 a 60)), AV.val (Value.int IntKind.i64 (IntKind.wrap IntKind.i64 (divF BinOp.rem IntKind.u16 a 60))), AV.val (Value.int IntKind.i64 (IntKind.wrap IntKind.i64 (1 + IntKind.wrap IntKind.i64 (divF BinOp.rem IntKind.u16 a 60)))), AV.own 2, AV.ptr 0 1, AV.val (Value.int IntKind.u16 (a, b).snd), AV.val (Value.int IntKind.i64 (IntKind.wrap IntKind.i64 b)), AV.own 2, AV.val (Value.int IntKind.i64 (↑(List.length r20) : Int)), AV.val (Value.int IntKind.i64 (divF BinOp.rem IntKind.i64 (IntKind.wrap IntKind.i64 b) (↑(List.length r20) : Int))), AV.own 2, AV.val (Value.int IntKind.u64 r35), AV.own 2, AV.val (Value.int IntKind.i64 (divF BinOp.rem IntKind.i64 (IntKind.wrap IntKind.i64 b) (↑(List.length r20) : Int))), AV.agg [AV.own 5, AV.val (Value.int IntKind.i64 r39.snd)], AV.sh (K.int IntKind.u64) l, AV.sh (K.int IntKind.u64) l, AV.val (Value.int IntKind.i64 (↑(List.length l) : Int)), AV.ptr 3 0, AV.own 5, AV.val (Value.int IntKind.i64 (↑(List.length r39.1) : Int)), AV.val (Value.int IntKind.i64 (mnF (↑(List.length l) : Int) (↑(List.length r39.1) : Int))), AV.sh (K.int IntKind.u64) (List.take (Int.toNat (mnF (↑(List.length l) : Int) (↑(List.length r39.1) : Int))) l), AV.ptr 3 1, AV.val (Value.int IntKind.i64 r39.snd), AV.val (Value.bool (r39.snd != 0)), AV.val (Value.bool false), AV.val (Value.int IntKind.u64 r35), AV.own 2, AV.val (Value.int IntKind.i64 (↑(List.length r20) : Int)), AV.sh (K.int IntKind.u64) (List.take (Int.toNat (mnF (↑(List.length l) : Int) (↑(List.length r39.1) : Int))) l), AV.agg [AV.val (Value.int IntKind.i64 (↑(List.length r20) : Int)), AV.sh (K.int IntKind.u64) (List.take (Int.toNat (mnF (↑(List.length l) : Int) (↑(List.length r39.1) : Int))) l)], AV.val (Value.int IntKind.i64 (divF BinOp.rem IntKind.i64 (IntKind.wrap IntKind.i64 b) (↑(List.length r20) : Int))), AV.ptr 1 1, AV.val (Value.int IntKind.u64 (c, d).snd), AV.agg [AV.val (Value.int IntKind.i64 (divF BinOp.rem IntKind.i64 (IntKind.wrap IntKind.i64 b) (↑(List.length r20) : Int))), AV.val (Value.int IntKind.u64 (c, d).snd)], AV.val (Value.int IntKind.i64 r116), AV.val (Value.bool (r116 != 0)), AV.val (Value.bool (r116 != 0)), AV.dead, AV.dead, AV.dead, AV.dead, AV.dead, AV.dead, AV.own 2, AV.val (Value.int IntKind.i64 (↑(List.length r20) : Int)), AV.val (Value.int IntKind.i64 (divF BinOp.rem IntKind.i64 (IntKind.wrap IntKind.i64 b) (↑(List.length r20) : Int))), AV.own 4, AV.sh (K.int IntKind.u64) (List.take (Int.toNat (mnF (↑(List.length l) : Int) (↑(List.length r39.1) : Int))) l), AV.val (Value.int IntKind.i64 (↑(List.length (List.take (Int.toNat (mnF (↑(List.length l) : Int) (↑(List.length r39.1) : Int))) l)) : Int)), AV.own 4, AV.val (Value.int IntKind.i64 (↑(List.length r140) : Int)), AV.val (Value.bool ((↑(List.length (List.take (Int.toNat (mnF (↑(List.length l) : Int) (↑(List.length r39.1) : Int))) l)) : Int) != (↑(List.length r140) : Int))), AV.val (Value.bool false), AV.ptr 3 0, AV.own 5, AV.val (Value.int IntKind.i64 (↑(List.length r39.1) : Int)), AV.own 4, AV.val (Value.int IntKind.i64 (↑(List.length r140) : Int)), AV.val (Value.bool ((↑(List.length r39.1) : Int) != (↑(List.length r140) : Int))), AV.val (Value.bool ((↑(List.length r39.1) : Int) != (↑(List.length r140) : Int))), AV.own 2, AV.val (Value.int IntKind.i64 (divF BinOp.rem IntKind.i64 (IntKind.wrap IntKind.i64 b) (↑(List.length r20) : Int))), AV.epo 2 (Int.toNat (divF BinOp.rem IntKind.i64 (IntKind.wrap IntKind.i64 b) (↑(List.length r20) : Int))) 1 0, AV.val (Value.int IntKind.u64 (List.getD r20 (Int.toNat (divF BinOp.rem IntKind.i64 (IntKind.wrap IntKind.i64 b) (↑(List.length r20) : Int))) (Int.ofNat 0))), AV.ptr 1 1, AV.val (Value.int IntKind.u64 (c, d).snd), AV.val (Value.int IntKind.u64 (List.getD r20 (Int.toNat (divF BinOp.rem IntKind.i64 (IntKind.wrap IntKind.i64 b) (↑(List.length r20) : Int))) (Int.ofNat 0))), AV.val (Value.int IntKind.u64 d), AV.val (Value.bool (List.getD r20 (Int.toNat (divF BinOp.rem IntKind.i64 (IntKind.wrap IntKind.i64 b) (↑(List.length r20) : Int))) (Int.ofNat 0) == d)), AV.dead, AV.dead, AV.dead, AV.dead, AV.dead, AV.dead, AV.dead, AV.dead, AV.dead, AV.dead, AV.dead, AV.dead, AV.dead, AV.dead, AV.dead, AV.dead, AV.dead, AV.dead, AV.dead, AV.dead, AV.dead, AV.dead, AV.dead, AV.dead, AV.dead, AV.dead, AV.dead, AV.dead, AV.dead, AV.dead, AV.dead, AV.dead, AV.dead, AV.dead, AV.dead, AV.dead, AV.dead, AV.dead, AV.dead, AV.dead, AV.dead, AV.dead, AV.dead, AV.dead, AV.dead, AV.dead, AV.dead, AV.dead, AV.dead, AV.dead, AV.dead, AV.dead, AV.dead, AV.dead, AV.dead, AV.dead, AV.dead, AV.dead, AV.dead, AV.dead, AV.dead, AV.dead, AV.dead, AV.dead, AV.dead, AV.dead, AV.dead], ents := [(0, Ent.box 59 [AV.val (Value.int IntKind.u16 (a, b).fst), AV.val (Value.int IntKind.u16 (a, b).snd)]), (1, Ent.box 83 [AV.val (Value.int IntKind.i64 (c, d).fst), AV.val (Value.int IntKind.u64 (c, d).snd)]), (2, Ent.row { k := K.int IntKind.u64, T := 72, fz := false, xs := r20 }), (3, Ent.box 80 [AV.own 5, AV.val (Value.int IntKind.i64 r39.snd)]), (4, Ent.row { k := K.bool, T := 4, fz := false, xs := r140 }), (5, Ent.row { k := K.int IntKind.u64, T := 72, fz := false, xs := r39.fst })], nx := 6 }) (contC Try.prog (fnsB k) binds.ann k [1, 1, 1, 1, 1, 1, 1, 1, 1, 1, 1, 1, 0, 1, 0] [] (bodyOf Try.f19) (finK Try.prog (spB (plexuslaw03_SealBinds.f k)) Try.f19.results.toList))
theorem binds.l0_succ (n0 k : Nat)  (l : List Int) (a : Int) (b : Int) (c : Int) (d : Int) (r4 : Bool) (r20 : List Int) (r35 : Int) (r39 : List Int × Int) (r116 : Int) (r140 : List Bool) (v10 : Int) (v11 : Int) (v12 : Bool) (v13 : Int) : binds.l0 (n0 + 1) k  l a b c d r4 r20 r35 r39 r116 r140 (v10) (v11) (v12) (v13) = (if (decide (v13 < (↑(List.length r140) : Int))) = true then (if 0 ≤ v13 then (if v13 < (↑(List.length r39.1) : Int) then (if 0 ≤ v13 then (if v13 < (↑(List.length r140) : Int) then (Option.bind (plexusref03_Up.f v10 (List.getD r39.1 (Int.toNat v13) (Int.ofNat 0), List.getD r140 (Int.toNat v13) false).fst (List.getD r39.1 (Int.toNat v13) (Int.ofNat 0), List.getD r140 (Int.toNat v13) false).snd) fun (r873 : Int) => (if 0 ≤ v13 then (if v13 < (↑(List.length (List.take (Int.toNat (mnF (↑(List.length l) : Int) (↑(List.length r39.1) : Int))) l)) : Int) then (if 0 ≤ v13 then (if v13 < (↑(List.length r140) : Int) then (Option.bind (plexusref03_Up.f v11 (List.getD (List.take (Int.toNat (mnF (↑(List.length l) : Int) (↑(List.length r39.1) : Int))) l) (Int.toNat v13) (Int.ofNat 0), List.getD r140 (Int.toNat v13) false).fst (List.getD (List.take (Int.toNat (mnF (↑(List.length l) : Int) (↑(List.length r39.1) : Int))) l) (Int.toNat v13) (Int.ofNat 0), List.getD r140 (Int.toNat v13) false).snd) fun (r888 : Int) => (if (v10 != v11) = true then (if (r873 == r888) = true then some (r4) else (if v12 = true then (if 0 ≤ v13 then (if v13 < (↑(List.length r39.1) : Int) then (if 0 ≤ v13 then (if v13 < (↑(List.length (List.take (Int.toNat (mnF (↑(List.length l) : Int) (↑(List.length r39.1) : Int))) l)) : Int) then (binds.l0 n0 k  l a b c d r4 r20 r35 r39 r116 r140 (r873) (r888) (List.getD r39.1 (Int.toNat v13) (Int.ofNat 0) == List.getD (List.take (Int.toNat (mnF (↑(List.length l) : Int) (↑(List.length r39.1) : Int))) l) (Int.toNat v13) (Int.ofNat 0)) (IntKind.wrap IntKind.i64 (v13 + 1))) else none) else none) else none) else none) else (binds.l0 n0 k  l a b c d r4 r20 r35 r39 r116 r140 (r873) (r888) (false) (IntKind.wrap IntKind.i64 (v13 + 1))))) else (if 0 ≤ v13 then (if v13 < (↑(List.length r39.1) : Int) then (if 0 ≤ v13 then (if v13 < (↑(List.length (List.take (Int.toNat (mnF (↑(List.length l) : Int) (↑(List.length r39.1) : Int))) l)) : Int) then (if (List.getD r39.1 (Int.toNat v13) (Int.ofNat 0) != List.getD (List.take (Int.toNat (mnF (↑(List.length l) : Int) (↑(List.length r39.1) : Int))) l) (Int.toNat v13) (Int.ofNat 0)) = true then (if (r873 == r888) = true then some (r4) else (if v12 = true then (if 0 ≤ v13 then (if v13 < (↑(List.length r39.1) : Int) then (if 0 ≤ v13 then (if v13 < (↑(List.length (List.take (Int.toNat (mnF (↑(List.length l) : Int) (↑(List.length r39.1) : Int))) l)) : Int) then (binds.l0 n0 k  l a b c d r4 r20 r35 r39 r116 r140 (r873) (r888) (List.getD r39.1 (Int.toNat v13) (Int.ofNat 0) == List.getD (List.take (Int.toNat (mnF (↑(List.length l) : Int) (↑(List.length r39.1) : Int))) l) (Int.toNat v13) (Int.ofNat 0)) (IntKind.wrap IntKind.i64 (v13 + 1))) else none) else none) else none) else none) else (binds.l0 n0 k  l a b c d r4 r20 r35 r39 r116 r140 (r873) (r888) (false) (IntKind.wrap IntKind.i64 (v13 + 1))))) else (if v12 = true then (if 0 ≤ v13 then (if v13 < (↑(List.length r39.1) : Int) then (if 0 ≤ v13 then (if v13 < (↑(List.length (List.take (Int.toNat (mnF (↑(List.length l) : Int) (↑(List.length r39.1) : Int))) l)) : Int) then (binds.l0 n0 k  l a b c d r4 r20 r35 r39 r116 r140 (r873) (r888) (List.getD r39.1 (Int.toNat v13) (Int.ofNat 0) == List.getD (List.take (Int.toNat (mnF (↑(List.length l) : Int) (↑(List.length r39.1) : Int))) l) (Int.toNat v13) (Int.ofNat 0)) (IntKind.wrap IntKind.i64 (v13 + 1))) else none) else none) else none) else none) else (binds.l0 n0 k  l a b c d r4 r20 r35 r39 r116 r140 (r873) (r888) (false) (IntKind.wrap IntKind.i64 (v13 + 1))))) else none) else none) else none) else none))) else none) else none) else none) else none)) else none) else none) else none) else none) else (if v12 = true then some (r4) else some (false))) := by kernel_rfl
noncomputable def binds.m (k : Nat) (l : List Int) (a : Int) (b : Int) (c : Int) (d : Int) : Option (Bool) :=
  execF Try.prog (fnsB k) binds.ann k (spB (plexuslaw03_SealBinds.f k)) 164 Try.f19.results.toList (bodyOf Try.f19) (l, (a, b), c, d)
theorem binds.m_eq (k : Nat) (l : List Int) (a : Int) (b : Int) (c : Int) (d : Int) : binds.m k l a b c d = (Option.bind (plexuslaw03_examples.f k) fun (r4 : Bool) => (if (!r4) = true then some (false) else (Option.bind (plexusref03_Grown.f k l (IntKind.wrap IntKind.i64 (1 + IntKind.wrap IntKind.i64 (divF BinOp.rem IntKind.u16 a 60)))) fun (r20 : List Int) => (if (↑(List.length r20) : Int) = 0 then none else (Option.bind (seal_Root.f k r20) fun (r35 : Int) => (Option.bind (plexuslaw03_opened.f k r20 (divF BinOp.rem IntKind.i64 (IntKind.wrap IntKind.i64 b) (↑(List.length r20) : Int))) fun (r39 : List Int × Int) => (if 0 ≤ mnF (↑(List.length l) : Int) (↑(List.length r39.1) : Int) then (if mnF (↑(List.length l) : Int) (↑(List.length r39.1) : Int) ≤ (↑(List.length l) : Int) then (if (r39.snd != 0) = true then (if (r39.snd == 0) = true then some (r4) else some (false)) else (Option.bind (plexuslaw03_check.f k r35 (((↑(List.length r20) : Int), List.take (Int.toNat (mnF (↑(List.length l) : Int) (↑(List.length r39.1) : Int))) l), divF BinOp.rem IntKind.i64 (IntKind.wrap IntKind.i64 b) (↑(List.length r20) : Int), (c, d).snd).fst.fst (((↑(List.length r20) : Int), List.take (Int.toNat (mnF (↑(List.length l) : Int) (↑(List.length r39.1) : Int))) l), divF BinOp.rem IntKind.i64 (IntKind.wrap IntKind.i64 b) (↑(List.length r20) : Int), (c, d).snd).fst.snd (((↑(List.length r20) : Int), List.take (Int.toNat (mnF (↑(List.length l) : Int) (↑(List.length r39.1) : Int))) l), divF BinOp.rem IntKind.i64 (IntKind.wrap IntKind.i64 b) (↑(List.length r20) : Int), (c, d).snd).snd.fst (((↑(List.length r20) : Int), List.take (Int.toNat (mnF (↑(List.length l) : Int) (↑(List.length r39.1) : Int))) l), divF BinOp.rem IntKind.i64 (IntKind.wrap IntKind.i64 b) (↑(List.length r20) : Int), (c, d).snd).snd.snd) fun (r116 : Int) => (if (r116 != 0) = true then (if (r39.snd == 0) = true then some (r4) else some (false)) else (Option.bind (plexusref03_Sides.f k (↑(List.length r20) : Int) (divF BinOp.rem IntKind.i64 (IntKind.wrap IntKind.i64 b) (↑(List.length r20) : Int))) fun (r140 : List Bool) => (if ((↑(List.length (List.take (Int.toNat (mnF (↑(List.length l) : Int) (↑(List.length r39.1) : Int))) l)) : Int) != (↑(List.length r140) : Int)) = true then some (false) else (if ((↑(List.length r39.1) : Int) != (↑(List.length r140) : Int)) = true then some (false) else (if 0 ≤ divF BinOp.rem IntKind.i64 (IntKind.wrap IntKind.i64 b) (↑(List.length r20) : Int) then (if divF BinOp.rem IntKind.i64 (IntKind.wrap IntKind.i64 b) (↑(List.length r20) : Int) < (↑(List.length r20) : Int) then (binds.l0 k k  l a b c d r4 r20 r35 r39 r116 r140 (List.getD r20 (Int.toNat (divF BinOp.rem IntKind.i64 (IntKind.wrap IntKind.i64 b) (↑(List.length r20) : Int))) (Int.ofNat 0)) (d) (List.getD r20 (Int.toNat (divF BinOp.rem IntKind.i64 (IntKind.wrap IntKind.i64 b) (↑(List.length r20) : Int))) (Int.ofNat 0) == d) (0)) else none) else none))))))) else none) else none))))))) := by kernel_rfl
theorem rd_get (xs : List Int) (i : Int) : List.getD xs (Int.toNat i) (Int.ofNat 0) = rd xs i := rfl
theorem rdOf_get (xs : List Bool) (i : Int) : List.getD xs (Int.toNat i) false = rdOf false xs i := rfl
theorem wrap_get (i : Int) : IntKind.wrap IntKind.i64 i = wrap64 i := by unfold wrap64; rw [IntKind.wrap_i64]
set_option maxHeartbeats 4000000
theorem binds_l0 (k : Nat) (l : List Int) (a b c d : Int) (r4 : Bool) (r20 : List Int) (r35 : Int) (r39 : List Int × Int) (r116 : Int) (r140 : List Bool) (r : Bool) : ∀ (n : Nat) (v10 v11 : Int) (v12 : Bool) (v13 : Int),
    plexuslaw03_SealBinds.l0 n r4 (List.take (Int.toNat (mnF (l.length : Int) (r39.1.length : Int))) l) r140 v10 v11 v12 v13 r39.1 r39.2 = some r → binds.l0 n k l a b c d r4 r20 r35 r39 r116 r140 v10 v11 v12 v13 = some r
  | 0, _, _, _, _, h => by simp [plexuslaw03_SealBinds.l0] at h
  | n + 1, v10, v11, v12, v13, h => by
    have ih := binds_l0 k l a b c d r4 r20 r35 r39 r116 r140 r n
    rw [binds.l0_succ]
    simp only [plexuslaw03_SealBinds.l0] at h
    generalize List.take (Int.toNat (mnF (l.length : Int) (r39.1.length : Int))) l = q at h ih ⊢
    simp only [rd_get, rdOf_get, decide_eq_true_eq, wrap_get, bne_iff_ne, beq_iff_eq, ne_eq, ite_not]
    repeat' first | (cases h; done) | split at h | (rw [Option.bind_eq_some_iff] at h; obtain ⟨_, _, h⟩ := h) | fail
    all_goals first | (have h' := ih _ _ _ _ h; clear h ih; simp only [*, if_true, if_false, Option.bind_some]) | (clear ih; simp only [*, if_true, if_false, Option.bind_some]) | skip
    all_goals simp_all
theorem binds_m (k : Nat) (l : List Int) (a b c d : Int) (r : Bool) (h : plexuslaw03_SealBinds.f k l a b c d = some r) : binds.m k l a b c d = some r := by
  rw [binds.m_eq]
  unfold plexuslaw03_SealBinds.f at h
  have emn : ∀ x y : Int, mnF x y = mn x y := fun _ _ => rfl
  have erem : ∀ (kd : IntKind) (x y : Int), divF BinOp.rem kd x y = Int.tmod x y := fun _ _ _ => rfl
  have L := fun t20 t35 t39 t116 t140 => binds_l0 k l a b c d true t20 t35 t39 t116 t140 r k
  simp only [erem, wrap_get, emn, rd_get, rdOf_get] at L ⊢
  obtain ⟨t1, h1, h⟩ := Option.bind_eq_some_iff.1 h
  rw [h1, Option.bind_some]
  split at h
  case isFalse => cases h
  rename_i c1
  subst c1
  rw [if_neg (by decide)]
  obtain ⟨t2, h2, h⟩ := Option.bind_eq_some_iff.1 h
  rw [h2, Option.bind_some]
  split at h
  case isTrue => cases h
  rename_i c2
  rw [if_neg c2]
  obtain ⟨t3, h3, h⟩ := Option.bind_eq_some_iff.1 h
  rw [h3, Option.bind_some]
  obtain ⟨t4, h4, h⟩ := Option.bind_eq_some_iff.1 h
  rw [h4, Option.bind_some]
  have L := L t2 t3 t4
  generalize List.take (mn (l.length : Int) (t4.1.length : Int)).toNat l = q at h L ⊢
  split at h
  case isFalse => cases h
  rename_i c3
  rw [if_pos c3]
  split at h
  case isFalse => cases h
  rename_i c4
  rw [if_pos c4]
  split at h
  case isFalse => cases h
  rename_i c5
  rw [if_neg (by rw [c5]; decide)]
  obtain ⟨t5, h5, h⟩ := Option.bind_eq_some_iff.1 h
  rw [h5, Option.bind_some]
  split at h
  case isFalse c6 =>
    rw [if_pos (bne_iff_ne.2 c6), if_pos (by rw [c5]; decide)]
    exact h
  rename_i c6
  rw [if_neg (by rw [c6]; decide)]
  obtain ⟨t6, h6, h⟩ := Option.bind_eq_some_iff.1 h
  rw [h6, Option.bind_some]
  split at h
  case isFalse => cases h
  rename_i c7
  rw [if_neg (by rw [c7]; simp)]
  split at h
  case isFalse => cases h
  rename_i c8
  rw [if_neg (by rw [c8]; simp)]
  split at h
  case isFalse => cases h
  rename_i c9
  rw [if_pos c9]
  split at h
  case isFalse => cases h
  rename_i c10
  rw [if_pos c10]
  exact L t5 t6 _ _ _ _ h
theorem binds_good (k : Nat) : Vx.Good Try.prog 19 (spB (plexuslaw03_SealBinds.f k)) := by
  refine Vx.good_of (fn := Try.f19) (c := bodyOf Try.f19) Try.func19 (by kernel_rfl) (by kernel_rfl) (by kernel_rfl) fun x r h => ?_
  obtain ⟨l, ⟨a, b⟩, c, d⟩ := x
  exact ⟨fnsB k, binds.ann, k, fnsB_good k, binds_m k l a b c d r h⟩
end Go.Proofs.Ytcanekmlabehgaa.V03
namespace Go.Proofs.Ytcanekmlabehgaa.P03
open Go Go.Vx Go.RowKit Go.Proofs.YtcanekmlabehgaaW.PrintWords Go.Proofs.YtcanekmlabehgaaW.PrintLast Go.Proofs.YtcanekmlabehgaaW.PrintMore
theorem plexuslaw03_SealBinds.calls (k : Nat) (A0 : Option Addr) (c0 : Nat) (l0 : List Int) (a1_0 : Int) (a1_1 : Int) (a2_0 : Int) (a2_1 : Int) (r : Bool) (w : World) (hr0 : Kd.C (Kd.int .u64) w A0 l0.length l0) (hc0 : l0.length ≤ c0) (h : plexuslaw03_SealBinds.f k l0 a1_0 a1_1 a2_0 a2_1 = some r) :
    Calls Try.prog 19 #[.slice A0 l0.length c0, .agg #[.int .u16 a1_0, .int .u16 a1_1], .agg #[.int .i64 a2_0, .int .u64 a2_1]] w fun e w' => e = .returned (.bool r) ∧ Below w.heap.size w w' := by
  have hR : Vx.Rd w (fun b => b < w.heap.size) (V03.spB (plexuslaw03_SealBinds.f k)).argK (l0, (a1_0, a1_1), a2_0, a2_1) [.slice A0 l0.length c0, .int .u16 a1_0, .int .u16 a1_1, .int .i64 a2_0, .int .u64 a2_1] :=
    ⟨[.slice A0 l0.length c0], [.int .u16 a1_0, .int .u16 a1_1, .int .i64 a2_0, .int .u64 a2_1], rfl, rd_of_ints hr0 hc0, [.int .u16 a1_0, .int .u16 a1_1], [.int .i64 a2_0, .int .u64 a2_1], rfl, ⟨[.int .u16 a1_0], [.int .u16 a1_1], rfl, rfl, rfl⟩, ⟨[.int .i64 a2_0], [.int .u64 a2_1], rfl, rfl, rfl⟩⟩
  refine ((V03.binds_good k).ends (l0, (a1_0, a1_1), a2_0, a2_1) r h w (fun b => b < w.heap.size) _ (fun _ q => q) hR).mono ?_
  rintro e w' ⟨rc, F', rfl, hb, _, hi, _⟩
  obtain rfl : rc = [.bool r] := hi
  exact ⟨rfl, hb⟩
/-- THE ONE PURE STATEMENT of plexuslaw03_SealBinds. -/
def plexuslaw03_SealBinds.Pure : Prop := ∀ (l0 : List Int) (x1 : S59) (x2 : S83), (l0.length * 8 ≤ 140737488351232 ∧ l0.length ≤ maxLen ∧ ∀ x_ ∈ l0, (Lit.int .u64 x_).wf = true) → W59 x1 → W83 x2 → ∃ k, plexuslaw03_SealBinds.f k l0 x1.f0 x1.f1 x2.f0 x2.f1 = some true
theorem plexuslaw03_SealBinds.walk (P : plexuslaw03_SealBinds.Pure) (w : World) (A0 : Option Addr) (c0 : Nat) (l0 : List Int) (hr0 : Kd.C (Kd.int .u64) w A0 l0.length l0) (hc0 : l0.length ≤ c0) (w0 : (l0.length * 8 ≤ 140737488351232 ∧ l0.length ≤ maxLen ∧ ∀ x_ ∈ l0, (Lit.int .u64 x_).wf = true)) (x1 : S59) (cs1 : List Value) (hk1 : k59.K w x1 cs1) (w1 : W59 x1) (x2 : S83) (cs2 : List Value) (hk2 : k83.K w x2 cs2) (w2 : W83 x2) :
    Calls Try.prog 19 #[.slice A0 l0.length c0, .agg cs1.toArray, .agg cs2.toArray] w fun e w' => e = .returned (.bool true) ∧ Below w.heap.size w w' := by
  obtain ⟨k, h⟩ := P l0 x1 x2 w0 w1 w2
  obtain rfl := k59_open hk1
  obtain rfl := k83_open hk2
  refine (plexuslaw03_SealBinds.calls k A0 c0 l0 x1.f0 x1.f1 x2.f0 x2.f1 true w hr0 hc0 h).mono ?_
  rintro e w' ⟨rfl, hd⟩
  exact ⟨rfl, hd⟩
end Go.Proofs.Ytcanekmlabehgaa.P03
namespace Go.Proofs.Ytcanekmlabehgaa.V03
#print axioms Go.Proofs.Ytcanekmlabehgaa.P03.plexuslaw03_SealBinds.walk
end Go.Proofs.Ytcanekmlabehgaa.V03
