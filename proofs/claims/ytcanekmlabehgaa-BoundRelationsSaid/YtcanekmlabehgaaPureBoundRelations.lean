/- The law that the row states of plexus/plexuslaw23.BoundRelations: for every input the answer is true. Under no condition. -/
import Derived.Test.YtcanekmlabehgaaX23
import Derived.Test.YtcanekmlabehgaaQBest
import Derived.Test.YtcanekmlabehgaaQLexi
import Derived.Test.YtcanekmlabehgaaQV
namespace Go.Proofs.Ytcanekmlabehgaa.P
open Go.RowKit Go.Proofs.YtcanekmlabehgaaW.PrintWords
/-- THE ONE PURE STATEMENT of plexuslaw23_BoundRelations. -/
def plexuslaw23_BoundRelations.Pure : Prop := ∀ (a0 a1 a2 : Int), (Lit.int .u8 a0).wf = true → (Lit.int .u8 a1).wf = true → (Lit.int .u8 a2).wf = true → ∃ k, X23.plexuslaw23_BoundRelations.m k a0 a1 a2 = some true
theorem plexuslaw23_BoundRelations.walk (P : plexuslaw23_BoundRelations.Pure) (w : World) (a0 : Int) (w0 : (Lit.int .u8 a0).wf = true) (a1 : Int) (w1 : (Lit.int .u8 a1).wf = true) (a2 : Int) (w2 : (Lit.int .u8 a2).wf = true) :
    Calls Try.prog 14 #[.int .u8 a0, .int .u8 a1, .int .u8 a2] w fun e w' => e = .returned (.bool true) ∧ Below w.heap.size w w' := by
  obtain ⟨k, h⟩ := P a0 a1 a2 w0 w1 w2
  have hR : Vx.Rd w (fun b => b < w.heap.size) (.pair (.int .u8) (.pair (.int .u8) (.int .u8))) (a0, a1, a2) [.int .u8 a0, .int .u8 a1, .int .u8 a2] :=
    ⟨[.int .u8 a0], [.int .u8 a1, .int .u8 a2], rfl, rfl, [.int .u8 a1], [.int .u8 a2], rfl, rfl, rfl⟩
  have e : X23.plexuslaw23_BoundRelations.sp k = ⟨[none, none, none], .pair (.int .u8) (.pair (.int .u8) (.int .u8)), [.im .bool], .one none, false, fun (x : Int × Int × Int) => X23.plexuslaw23_BoundRelations.m k x.1 x.2.1 x.2.2⟩ := by kernel_rfl
  have q := @Vx.Good.law Try.prog 14 (X23.plexuslaw23_BoundRelations.sp k) [none, none, none] (.pair (.int .u8) (.pair (.int .u8) (.int .u8))) false (fun (x : Int × Int × Int) => X23.plexuslaw23_BoundRelations.m k x.1 x.2.1 x.2.2) (X23.plexuslaw23_BoundRelations.good k) e (a0, a1, a2)
  have q2 := q h (w := w) (cells := [.int .u8 a0, .int .u8 a1, .int .u8 a2])
  have q3 := q2 hR
  exact q3
end Go.Proofs.Ytcanekmlabehgaa.P
namespace Go.Proofs.Ytcanekmlabehgaa.Pure
set_option linter.unusedVariables false
set_option linter.unusedSimpArgs false
open Go.RowKit Go.Proofs.Ytcanekmlabehgaa.P Go.Proofs.YtcanekmlabehgaaW.PrintWords Go.Proofs.YtcanekmlabehgaaW.PrintLast Go.Proofs.YtcanekmlabehgaaW.PrintMore Go.Proofs.YtcanekmlabehgaaQ
theorem evJT {α : Type} {c : Prop} [Decidable c] {f g : Nat → Option α} {r : α} (h : c) (k : Ev f r) : Ev (fun n => if c then f n else g n) r := Ev.congr (fun n => if_pos h) k
theorem evJF {α : Type} {c : Prop} [Decidable c] {f g : Nat → Option α} {r : α} (h : ¬ c) (k : Ev g r) : Ev (fun n => if c then f n else g n) r := Ev.congr (fun n => if_neg h) k
def relB (n d : Nat) : Bool := Nat.ble (bst n d) (sph n d) && Nat.ble (bst n d) (sing n d) && (match plo n d with | some b => Nat.ble (bst n d) b | none => true) && Nat.ble 2 (bst n d) && Nat.ble (bst n d) 65536 &&
  (!Nat.ble (d + 1) n || Nat.ble (bst n (d + 1)) (bst n d)) && (!Nat.ble (n + 1) 16 || Nat.ble (bst (n + 1) d) (2 * bst n d)) && (!(Nat.ble (n + 1) 16 && Nat.beq (d % 2) 1) || Nat.ble (bst (n + 1) (d + 1)) (bst n d))
theorem relB_all : ((List.range 17).all fun n => (List.range 17).all fun d => !(Nat.ble 1 d && Nat.ble d n) || relB n d) = true := by kernel_rfl
theorem rel_at {n d : Nat} (hd : 1 ≤ d) (hn : d ≤ n) (h16 : n ≤ 16) : bst n d ≤ sph n d ∧ bst n d ≤ sing n d ∧ (∀ b, plo n d = some b → bst n d ≤ b) ∧ 2 ≤ bst n d ∧ bst n d ≤ 65536 ∧ (d < n → bst n (d + 1) ≤ bst n d) ∧ (n < 16 → bst (n + 1) d ≤ 2 * bst n d) ∧ (n < 16 → d % 2 = 1 → bst (n + 1) (d + 1) ≤ bst n d) := by
  have h0 := List.all_eq_true.1 (List.all_eq_true.1 relB_all n (List.mem_range.2 (by omega))) d (List.mem_range.2 (by omega))
  rw [Nat.ble_eq_true_of_le hd, Nat.ble_eq_true_of_le hn] at h0
  simp only [Bool.and_self, Bool.not_true, Bool.false_or, relB, Bool.and_eq_true, Nat.ble_eq] at h0
  obtain ⟨⟨⟨⟨⟨⟨⟨h1, h2⟩, h3⟩, h4⟩, h5⟩, h6⟩, h7⟩, h8⟩ := h0
  refine ⟨h1, h2, fun b hb => ?_, h4, h5, fun h => ?_, fun h => ?_, fun h ho => ?_⟩
  · rw [hb] at h3; exact Nat.le_of_ble_eq_true h3
  · rw [Nat.ble_eq_true_of_le (show d + 1 ≤ n from h)] at h6
    exact Nat.le_of_ble_eq_true (by simpa using h6)
  · rw [Nat.ble_eq_true_of_le (show n + 1 ≤ 16 from h)] at h7
    exact Nat.le_of_ble_eq_true (by simpa using h7)
  · rw [Nat.ble_eq_true_of_le (show n + 1 ≤ 16 from h), ho] at h8
    exact Nat.le_of_ble_eq_true (by simpa using h8)
def griB (m d : Nat) : Bool := match plexuslaw23_griesmer.f 60 m d, plexuslaw23_griesmer.f 60 ((m + 1 : Nat) : Int) d, plexuslaw23_griesmer.f 60 m ((d + 1 : Nat) : Int) with
  | some (x, 0), some (y, 0), some (z, 0) => decide (x < y) && decide (x < z) && decide (x ≥ ((d + m - 1 : Nat) : Int))
  | _, _, _ => false
theorem griB_all : ((List.range 16).all fun m => (List.range 17).all fun d => !(Nat.ble 1 m && Nat.ble 1 d) || griB m d) = true := by kernel_rfl
theorem gri_at {m d : Nat} (hm : 1 ≤ m) (hm15 : m ≤ 15) (hd : 1 ≤ d) (hd16 : d ≤ 16) : ∃ x y z : Int, Ev (fun k => plexuslaw23_griesmer.f k m d) (x, 0) ∧ Ev (fun k => plexuslaw23_griesmer.f k ((m + 1 : Nat) : Int) d) (y, 0) ∧ Ev (fun k => plexuslaw23_griesmer.f k m ((d + 1 : Nat) : Int)) (z, 0) ∧ x < y ∧ x < z ∧ x ≥ ((d + m - 1 : Nat) : Int) := by
  have h0 := List.all_eq_true.1 (List.all_eq_true.1 griB_all m (List.mem_range.2 (by omega))) d (List.mem_range.2 (by omega))
  rw [Nat.ble_eq_true_of_le hm, Nat.ble_eq_true_of_le hd] at h0
  simp only [Bool.and_self, Bool.not_true, Bool.false_or, griB] at h0
  split at h0
  · rename_i x y z h1 h2 h3
    simp only [Bool.and_eq_true, decide_eq_true_eq] at h0
    exact ⟨x, y, z, Ev.of (fun k => plexuslaw23_griesmer.mono _ _ k) h1, Ev.of (fun k => plexuslaw23_griesmer.mono _ _ k) h2, Ev.of (fun k => plexuslaw23_griesmer.mono _ _ k) h3, h0.1.1, h0.1.2, h0.2⟩
  · cases h0
theorem rel_greedy {n d : Nat} (hd : 1 ≤ d) (hdn : d ≤ n) (hn : n ≤ 10) : Ev (fun k => plexuslaw23_greedy.f k n d) (ints (QTried d (2 ^ n)), 0) := by
  have hN : 2 ^ n ≤ 1024 := Nat.pow_le_pow_right (n := 2) (by decide) hn
  have f1 : bound_fine.f 10 (n : Int) (d : Int) = some true := by
    unfold bound_fine.f
    simp [show (1 : Int) ≤ d by omega, hdn, show (n : Int) ≤ 10 by omega]
  have hs : shl .i64 1 (n : Int) = ((2 ^ n : Nat) : Int) := by
    have := power_f n (by omega)
    unfold plexusref23_Power.f at this
    rw [wu64 (by omega) (by omega), if_pos (by omega)] at this
    exact Option.some.inj this
  refine Ev.congr (f := fun k => (bound_Greedy.l0 k d (ints []) ((2 ^ n : Nat) : Int) ((0 : Nat) : Int)).bind fun bt => some (bt.1, bt.2)) (fun k => ?_) ?_
  · simp only [plexuslaw23_greedy.f, bound_Greedy.f, f1, Option.bind_some, if_true]
    rw [if_pos (by omega), hs]
    rfl
  · exact Ev.bind (greedy_l0 d (by omega) (2 ^ n) hN (2 ^ n) 0 [] (by omega) (by simp) (by simp)) (Ev.now _)
theorem rel_len {n d : Nat} (hd : 1 ≤ d) (hdn : d ≤ n) (hn : n ≤ 10) : 2 ≤ (QTried d (2 ^ n)).length ∧ (QTried d (2 ^ n)).length ≤ bst n d := by
  obtain ⟨h1, h2, h3, h4⟩ := GInv.all hd (2 ^ n)
  constructor
  · have hp : 0 < 2 ^ n := Nat.two_pow_pos n
    cases hl : QTried d (2 ^ n) with
    | nil =>
      obtain ⟨x, hx, _⟩ := h4 0 hp
      rw [hl] at hx; cases hx
    | cons a l =>
      cases l with
      | cons b l => simp
      | nil =>
        exfalso
        have ha := h1 a (by rw [hl]; exact List.mem_cons_self ..)
        have hv : a ^^^ (2 ^ n - 1) < 2 ^ n := Nat.xor_lt_two_pow ha (by omega)
        obtain ⟨x, hx, hlt⟩ := h4 _ hv
        rw [hl] at hx
        obtain rfl := List.mem_singleton.1 hx
        rw [← Nat.xor_assoc, Nat.xor_self, Nat.zero_xor] at hlt
        have full : ∀ m : Nat, m ≤ 10 → pop 16 (2 ^ m - 1) = m := by
          intro m hm
          have := List.all_eq_true.1 (show ((List.range 11).all fun m => Nat.beq (pop 16 (2 ^ m - 1)) m) = true by kernel_rfl) m (List.mem_range.2 (by omega))
          exact Nat.eq_of_beq_eq_true this
        rw [full n hn] at hlt
        omega
  · refine WCode.bst ⟨h1, ?_⟩ hd hdn
    have hmem : ∀ x ∈ QTried d (2 ^ n), x < 2 ^ n := h1
    refine List.Pairwise.imp_of_mem (fun {x y} hx hy h => ?_) h3
    rw [← pop_more (m := 16) (Nat.xor_lt_two_pow (hmem x hx) (hmem y hy)) (by omega)]
    exact h
theorem wi {x : Int} (h0 : -9223372036854775808 ≤ x) (h1 : x < 9223372036854775808) : IntKind.wrap IntKind.i64 x = x := by rw [wrap_i64', w64 h0 h1]
theorem rel_u8 {a : Int} (h : (Lit.int .u8 a).wf = true) : ∃ n : Nat, a = n ∧ n < 256 := by
  simp [Lit.wf, IntKind.min, IntKind.max, IntKind.signed, IntKind.bits] at h
  exact ⟨a.toNat, by omega, by omega⟩
theorem rel_exs : Ev (fun k => plexuslaw23_examples.f k) true := Ev.of (fun k => plexuslaw23_examples.mono k) (show plexuslaw23_examples.f 100 = some true by kernel_rfl)
theorem rel_below (a b : Int) (h : a ≤ b) : Ev (fun k => X23.plexuslaw23_below.m k a (b, 0)) true := by
  refine Ev.congr (fun k => X23.plexuslaw23_below.m_eq k a (b, 0)) ?_
  refine evX (fun k => if_pos rfl) ?_
  rw [show decide (a ≤ (b, (0 : Int)).fst) = true from decide_eq_true h]
  exact Ev.now _
section
variable (A B C L D M : Nat) (hL : IntKind.wrap IntKind.i64 (1 + Go.Vx.divF BinOp.rem IntKind.i64 (IntKind.wrap IntKind.i64 (A : Int)) 16) = (L : Int)) (hD : IntKind.wrap IntKind.i64 (1 + Go.Vx.divF BinOp.rem IntKind.i64 (IntKind.wrap IntKind.i64 (B : Int)) (L : Int)) = (D : Int)) (hM : IntKind.wrap IntKind.i64 (1 + Go.Vx.divF BinOp.rem IntKind.i64 (IntKind.wrap IntKind.i64 (C : Int)) 15) = (M : Int))
  (hL1 : 1 ≤ L) (hL2 : L ≤ 16) (hD1 : 1 ≤ D) (hD2 : D ≤ L) (hM1 : 1 ≤ M) (hM2 : M ≤ 15)
include hL hD hL1 hL2 hD1 hD2
include hM hM1 hM2 in
theorem rel_j2 : Ev (fun k => X23.plexuslaw23_BoundRelations.j2 k (A : Int) (B : Int) (C : Int) true) true := by
  obtain ⟨x, y, z, e1, e2, e3, h1, h2, h3⟩ := gri_at hM1 hM2 hD1 (show D ≤ 16 by omega)
  have w1 : IntKind.wrap IntKind.i64 ((M : Int) + 1) = ((M + 1 : Nat) : Int) := by rw [wi (by omega) (by omega)]; omega
  have w2 : IntKind.wrap IntKind.i64 ((D : Int) + 1) = ((D + 1 : Nat) : Int) := by rw [wi (by omega) (by omega)]; omega
  have w3 : IntKind.wrap IntKind.i64 (IntKind.wrap IntKind.i64 ((D : Int) + (M : Int)) - 1) = ((D + M - 1 : Nat) : Int) := by rw [wi (x := (D : Int) + (M : Int)) (by omega) (by omega), wi (by omega) (by omega)]; omega
  refine Ev.congr (fun k => X23.plexuslaw23_BoundRelations.j2_eq k _ _ _ true) ?_
  simp only [hL, hD, hM, w1, w2, w3]
  refine Ev.bind e1 (Ev.bind e2 (Ev.bind e3 (evJT trivial (evJT rfl (evJT rfl (evJT rfl (evJT (dT h1) (evJT (dT h2) ?_)))))))) 
  rw [show decide ((x, (0 : Int)).fst ≥ ((D + M - 1 : Nat) : Int)) = true from decide_eq_true h3]
  exact Ev.now _
include hM hM1 hM2 in
theorem rel_j1 : Ev (fun k => X23.plexuslaw23_BoundRelations.j1 k (A : Int) (B : Int) (C : Int) true ((bst L D : Int), 0)) true := by
  have hj := rel_j2 A B C L D M hL hD hM hL1 hL2 hD1 hD2 hM1 hM2
  refine Ev.congr (fun k => X23.plexuslaw23_BoundRelations.j1_eq k _ _ _ true _) ?_
  simp only [hL, hD]
  by_cases h8 : L ≤ 8
  · obtain ⟨g1, g2⟩ := rel_len hD1 hD2 (show L ≤ 10 by omega)
    refine evJT (dT (by omega)) (Ev.bind (rel_greedy hD1 hD2 (by omega)) (evJF (nF rfl) ?_))
    refine evJF (dF ?_) (evJF (dF ?_) hj)
    · rw [ints_len]; show ¬ (((QTried D (2 ^ L)).length : Int) > ((bst L D : Nat) : Int)); omega
    · rw [ints_len]; omega
  · exact evJF (dF (by omega)) hj
include hM hM1 hM2 in
theorem rel_j0 : Ev (fun k => X23.plexuslaw23_BoundRelations.j0 k (A : Int) (B : Int) (C : Int) true ((bst L D : Int), 0)) true := by
  have hj := rel_j1 A B C L D M hL hD hM hL1 hL2 hD1 hD2 hM1 hM2
  obtain ⟨_, _, _, r4, r5, r6, r7, r8⟩ := rel_at hD1 hD2 hL2
  have w1 : IntKind.wrap IntKind.i64 ((L : Int) + 1) = ((L + 1 : Nat) : Int) := by rw [wi (by omega) (by omega)]; omega
  have w2 : IntKind.wrap IntKind.i64 ((D : Int) + 1) = ((D + 1 : Nat) : Int) := by rw [wi (by omega) (by omega)]; omega
  have w3 : IntKind.wrap IntKind.i64 (2 * ((bst L D : Nat) : Int)) = ((2 * bst L D : Nat) : Int) := by rw [wi (by omega) (by omega)]; omega
  have w4 : Go.Vx.divF BinOp.rem IntKind.i64 (D : Int) 2 = ((D % 2 : Nat) : Int) := rfl
  refine Ev.congr (fun k => X23.plexuslaw23_BoundRelations.j0_eq k _ _ _ true _) ?_
  simp only [hL, hD, w1, w2, w3, w4]
  by_cases hdl : D < L
  · have b1 := (four_vals (n := L) (d := D + 1) (by omega) (by omega) hL2).2.2.2
    refine evJT (dT (by omega)) (Ev.bind b1 (evJF (nF rfl) (Ev.bind b1 (evJF (dF (by have := r6 hdl; show ¬ (((bst L (D + 1) : Nat) : Int) > ((bst L D : Nat) : Int)); omega)) ?_))))
    by_cases h16 : L < 16
    · have b2 := (four_vals (n := L + 1) (d := D) hD1 (by omega) (by omega)).2.2.2
      refine evJT (dT (by omega)) (Ev.bind b2 (evJF (nF rfl) (Ev.bind b2 (evJF (dF (by have := r7 h16; show ¬ (((bst (L + 1) D : Nat) : Int) > ((2 * bst L D : Nat) : Int)); omega)) (evJT (dT (by omega)) ?_)))))
      by_cases ho : D % 2 = 1
      · have b3 := (four_vals (n := L + 1) (d := D + 1) (by omega) (by omega) (by omega)).2.2.2
        exact evJT (bT (by omega)) (Ev.bind b3 (evJF (dF (by have := r8 h16 ho; show ¬ (((bst (L + 1) (D + 1) : Nat) : Int) > ((bst L D : Nat) : Int)); omega)) hj))
      · exact evJF (bF (by omega)) hj
    · exact evJF (dF (by omega)) (evJF (dF (by omega)) hj)
  · refine evJF (dF (by omega)) ?_
    by_cases h16 : L < 16
    · have b2 := (four_vals (n := L + 1) (d := D) hD1 (by omega) (by omega)).2.2.2
      refine evJT (dT (by omega)) (Ev.bind b2 (evJF (nF rfl) (Ev.bind b2 (evJF (dF (by have := r7 h16; show ¬ (((bst (L + 1) D : Nat) : Int) > ((2 * bst L D : Nat) : Int)); omega)) (evJT (dT (by omega)) ?_)))))
      by_cases ho : D % 2 = 1
      · have b3 := (four_vals (n := L + 1) (d := D + 1) (by omega) (by omega) (by omega)).2.2.2
        exact evJT (bT (by omega)) (Ev.bind b3 (evJF (dF (by have := r8 h16 ho; show ¬ (((bst (L + 1) (D + 1) : Nat) : Int) > ((bst L D : Nat) : Int)); omega)) hj))
      · exact evJF (bF (by omega)) hj
    · exact evJF (dF (by omega)) (evJF (dF (by omega)) hj)
include hM hM1 hM2 in
theorem rel_m : Ev (fun k => X23.plexuslaw23_BoundRelations.m k (A : Int) (B : Int) (C : Int)) true := by
  have hj := rel_j0 A B C L D M hL hD hM hL1 hL2 hD1 hD2 hM1 hM2
  obtain ⟨v1, v2, v3, v4⟩ := four_vals hD1 hD2 hL2
  obtain ⟨r1, r2, r3, r4, r5, _⟩ := rel_at hD1 hD2 hL2
  refine Ev.congr (fun k => X23.plexuslaw23_BoundRelations.m_eq k _ _ _) ?_
  simp only [hL, hD, v2]
  refine Ev.bind rel_exs (evJF (notF rfl) (evJF (by omega) (Ev.bind v4 (Ev.bind v3 (evJF (nF rfl) (Ev.bind v1 (Ev.bind (rel_below _ _ (by show ((bst L D : Nat) : Int) ≤ ((sph L D : Nat) : Int); omega)) (evJF (notF rfl) (Ev.bind (Ev.now _) (Ev.bind (rel_below _ _ (by show ((bst L D : Nat) : Int) ≤ ((sing L D : Nat) : Int); omega)) (evJF (notF rfl) ?_)))))))))))
  cases hp : plo L D with
  | none => exact evJF (by show ¬ (((4 : Int) == 0) = true); decide) (evJF (dF (by show ¬ (((bst L D : Nat) : Int) < 2); omega)) hj)
  | some b => exact evJT rfl (evJF (dF (by have := r3 b hp; show ¬ (((bst L D : Nat) : Int) > ((b : Nat) : Int)); omega)) (evJF (dF (by show ¬ (((bst L D : Nat) : Int) < 2); omega)) hj))
end
theorem BoundRelations : plexuslaw23_BoundRelations.Pure := by
  intro a b c ha hb hc
  obtain ⟨A, rfl, hA⟩ := rel_u8 ha
  obtain ⟨B, rfl, hB⟩ := rel_u8 hb
  obtain ⟨C, rfl, hC⟩ := rel_u8 hc
  have hL : IntKind.wrap IntKind.i64 (1 + Go.Vx.divF BinOp.rem IntKind.i64 (IntKind.wrap IntKind.i64 (A : Int)) 16) = ((1 + A % 16 : Nat) : Int) := by
    rw [wi (x := (A : Int)) (by omega) (by omega), show Go.Vx.divF BinOp.rem IntKind.i64 (A : Int) 16 = ((A % 16 : Nat) : Int) from rfl, wi (by omega) (by omega)]; omega
  have hBn : B % (1 + A % 16) < 1 + A % 16 := Nat.mod_lt _ (by omega)
  have hD : IntKind.wrap IntKind.i64 (1 + Go.Vx.divF BinOp.rem IntKind.i64 (IntKind.wrap IntKind.i64 (B : Int)) ((1 + A % 16 : Nat) : Int)) = ((1 + B % (1 + A % 16) : Nat) : Int) := by
    rw [wi (x := (B : Int)) (by omega) (by omega), show Go.Vx.divF BinOp.rem IntKind.i64 (B : Int) ((1 + A % 16 : Nat) : Int) = ((B % (1 + A % 16) : Nat) : Int) from rfl, wi (by omega) (by omega)]; omega
  have hM : IntKind.wrap IntKind.i64 (1 + Go.Vx.divF BinOp.rem IntKind.i64 (IntKind.wrap IntKind.i64 (C : Int)) 15) = ((1 + C % 15 : Nat) : Int) := by
    rw [wi (x := (C : Int)) (by omega) (by omega), show Go.Vx.divF BinOp.rem IntKind.i64 (C : Int) 15 = ((C % 15 : Nat) : Int) from rfl, wi (by omega) (by omega)]; omega
  exact Ev.rounds (rel_m A B C _ _ _ hL hD hM (by omega) (by omega) (by omega) (by omega) (by omega) (by omega))
end Go.Proofs.Ytcanekmlabehgaa.Pure
