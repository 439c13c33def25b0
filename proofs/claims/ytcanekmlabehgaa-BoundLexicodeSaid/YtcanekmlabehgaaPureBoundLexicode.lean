/- The law that the row states of plexus/plexuslaw23.BoundLexicode: for every input the answer is true. Under no condition. -/
import Derived.Test.YtcanekmlabehgaaPx8
import Derived.Test.YtcanekmlabehgaaQLexi
namespace Go.Proofs.Ytcanekmlabehgaa.Pure
set_option linter.unusedVariables false
set_option linter.unusedSimpArgs false
set_option linter.unusedSectionVars false
open Go.RowKit Go.Proofs.Ytcanekmlabehgaa.P Go.Proofs.YtcanekmlabehgaaW.PrintWords Go.Proofs.YtcanekmlabehgaaW.PrintLast Go.Proofs.YtcanekmlabehgaaQ

theorem lexi_greedy {n d : Nat} (hd : 1 ≤ d) (hdn : d ≤ n) (hn : n ≤ 10) : Ev (fun k => plexuslaw23_greedy.f k n d) (ints (QTried d (2 ^ n)), 0) := by
  have hN : 2 ^ n ≤ 1024 := Nat.pow_le_pow_right (n := 2) (by decide) hn
  have f1 : bound_fine.f 10 (n : Int) (d : Int) = some true := by
    unfold bound_fine.f
    simp [show (1 : Int) ≤ d by omega, hdn, show (n : Int) ≤ 10 by omega]
  have hs : shl .i64 1 (n : Int) = ((2 ^ n : Nat) : Int) := by
    have := power_f n (by omega)
    unfold plexusref23_Power.f at this
    rw [wu64 (by omega) (by omega), if_pos (by omega)] at this
    exact Option.some.inj this
  refine Ev.congr (f := fun k => (bound_Greedy.l0 k d (ints []) ((2 ^ n : Nat) : Int) ((0 : Nat) : Int)).bind fun bt => some (bt.1, bt.2)) (fun k => ?_) ?_
  · simp only [plexuslaw23_greedy.f, bound_Greedy.f, f1, Option.bind_some, if_true]
    rw [if_pos (by omega), hs]
    rfl
  · exact Ev.bind (greedy_l0 d (by omega) (2 ^ n) hN (2 ^ n) 0 [] (by omega) (by simp) (by simp)) (Ev.now _)

section
variable {n d : Nat} (hd : 1 ≤ d) (hdn : d ≤ n) (hn : n ≤ 9) (hN : 2 ^ n ≤ 512)
  {L : List Nat} (hlt : ∀ x ∈ L, x < 2 ^ n) (hsort : L.Pairwise (· < ·)) (hdist : L.Pairwise fun x y => d ≤ pop 16 (x ^^^ y))
  (hcov : ∀ v, v < 2 ^ n → ∃ x ∈ L, pop 16 (x ^^^ v) < d) (hcl : ∀ x y, x ∈ L → y ∈ L → x ^^^ y ∈ L)
include hN hdn hn

include hlt in
theorem lexi_len (hs : L.Pairwise (· < ·)) : L.length ≤ 512 := Nat.le_trans (nodup_bound (2 ^ n) L (hs.imp fun h => Nat.ne_of_lt h) hlt) hN

include hlt hsort hcov in
theorem lexi_l4 (M : List Bool) (hM : M.length = 2 ^ n) (v : Nat) (hv : v < 2 ^ n) (k0 : Int)
    (next : Ev (fun k => plexuslaw23_BoundLexicode.l3 k true d M ((v + 1 : Nat) : Int) (ints L) k0) true) :
    ∀ (m j : Nat) (t : Bool), j + m = L.length → (t = true ∨ ∃ i, j ≤ i ∧ ∃ h : i < L.length, pop 16 (L[i] ^^^ v) < d) →
      Ev (fun k => plexuslaw23_BoundLexicode.l4 k true d M v t j (ints L) k0) true := by
  have hlen := lexi_len hdn hn hN hlt hsort
  intro m
  induction m with
  | zero =>
    intro j t hj ht
    rcases ht with rfl | ⟨i, h1, h2, h3⟩
    · refine Ev.step (f := fun k => plexuslaw23_BoundLexicode.l3 k true d M ((v + 1 : Nat) : Int) (ints L) k0) (fun k => ?_) next
      simp only [plexuslaw23_BoundLexicode.l4]
      rw [if_neg (by rw [ints_len]; omega), if_pos trivial, w64 (by omega) (by omega)]
      rfl
    · omega
  | succ m ih =>
    intro j t hj ht
    rcases ht with rfl | ⟨i, h1, h2, h3⟩
    · refine Ev.step (f := fun k => plexuslaw23_BoundLexicode.l3 k true d M ((v + 1 : Nat) : Int) (ints L) k0) (fun k => ?_) next
      simp only [plexuslaw23_BoundLexicode.l4]
      rw [if_pos (by rw [ints_len]; omega), if_pos trivial, w64 (by omega) (by omega)]
      rfl
    · cases t with
      | true =>
        refine Ev.step (f := fun k => plexuslaw23_BoundLexicode.l3 k true d M ((v + 1 : Nat) : Int) (ints L) k0) (fun k => ?_) next
        simp only [plexuslaw23_BoundLexicode.l4]
        rw [if_pos (by rw [ints_len]; omega), if_pos trivial, w64 (by omega) (by omega)]
        rfl
      | false =>
        have hjl : j < L.length := by omega
        have hx : L[j] < 2 ^ n := hlt _ (List.getElem_mem hjl)
        have hxv : L[j] ^^^ v < 2 ^ 16 := Nat.xor_lt_two_pow (Nat.lt_of_lt_of_le hx (Nat.le_trans hN (by decide))) (Nat.lt_of_lt_of_le hv (Nat.le_trans hN (by decide)))
        refine Ev.step (f := fun k => (plexusref23_Weight.f k ((L[j] ^^^ v : Nat) : Int)).bind fun t372 => plexuslaw23_BoundLexicode.l4 k true d M v (decide (t372 < (d : Int))) ((j + 1 : Nat) : Int) (ints L) k0) (fun k => ?_) ?_
        · simp only [plexuslaw23_BoundLexicode.l4]
          rw [if_pos (by rw [ints_len]; omega), if_neg (by decide), if_pos (by omega), rd_ints L j hjl, xor_nat (by omega) (by omega), w64 (by omega) (by omega)]
          rfl
        · refine Ev.bind (weight_f _ hxv) ?_
          refine ih (j + 1) _ (by omega) ?_
          by_cases hp : pop 16 (L[j] ^^^ v) < d
          · exact Or.inl (decide_eq_true (by omega))
          · refine Or.inr ⟨i, ?_, h2, h3⟩
            rcases Nat.eq_or_lt_of_le h1 with rfl | h
            · exact absurd h3 hp
            · omega

include hlt hsort hcov in
theorem lexi_l3 (M : List Bool) (hM : M.length = 2 ^ n) (k0 : Int) : ∀ (m v : Nat), v + m = 2 ^ n → Ev (fun k => plexuslaw23_BoundLexicode.l3 k true d M v (ints L) k0) true := by
  intro m
  induction m with
  | zero =>
    intro v hv
    refine Ev.step (f := fun k => some true) (fun k => ?_) (Ev.now _)
    simp only [plexuslaw23_BoundLexicode.l3]
    rw [if_neg (by omega)]
  | succ m ih =>
    intro v hv
    refine Ev.step (f := fun k => plexuslaw23_BoundLexicode.l4 k true d M v false (0 : Nat) (ints L) k0) (fun k => ?_) ?_
    · simp only [plexuslaw23_BoundLexicode.l3]
      rw [if_pos (by omega)]
      rfl
    · refine lexi_l4 hdn hn hN hlt hsort hcov M hM v (by omega) k0 (ih (v + 1) (by omega)) L.length 0 false (by omega) (Or.inr ?_)
      obtain ⟨x, hx, hp⟩ := hcov v (by omega)
      obtain ⟨i, hi, rfl⟩ := List.getElem_of_mem hx
      exact ⟨i, Nat.zero_le _, hi, hp⟩

include hlt hsort hdist hcov hcl in
theorem lexi_l2 (M : List Bool) (hM : M.length = 2 ^ n) (hmk : ∀ x ∈ L, rdOf false M (x : Int) = true) (i : Nat) (hi : i < L.length) (k0 : Int)
    (next : Ev (fun k => plexuslaw23_BoundLexicode.l1 k true d M ((i + 1 : Nat) : Int) (ints L) k0) true) :
    ∀ (m j : Nat), j + m = i → Ev (fun k => plexuslaw23_BoundLexicode.l2 k true d M i j (ints L) k0) true := by
  have hlen := lexi_len hdn hn hN hlt hsort
  intro m
  induction m with
  | zero =>
    intro j hj
    refine Ev.step (f := fun k => plexuslaw23_BoundLexicode.l1 k true d M ((i + 1 : Nat) : Int) (ints L) k0) (fun k => ?_) next
    simp only [plexuslaw23_BoundLexicode.l2]
    rw [if_neg (by omega), w64 (by omega) (by omega)]
    rfl
  | succ m ih =>
    intro j hj
    have hjl : j < L.length := by omega
    have hx : L[j] < 2 ^ n := hlt _ (List.getElem_mem hjl)
    have hy : L[i] < 2 ^ n := hlt _ (List.getElem_mem hi)
    have hxy : L[i] ^^^ L[j] < 2 ^ n := Nat.xor_lt_two_pow hy hx
    have hw : L[i] ^^^ L[j] < 2 ^ 16 := Nat.lt_of_lt_of_le hxy (Nat.le_trans hN (by decide))
    have hle : d ≤ pop 16 (L[i] ^^^ L[j]) := by
      rw [Nat.xor_comm]
      exact (List.pairwise_iff_getElem.1 hdist) j i hjl hi (by omega)
    have hmem := hmk _ (hcl _ _ (List.getElem_mem hi) (List.getElem_mem hjl))
    refine Ev.step (f := fun k => (plexusref23_Weight.f k ((L[i] ^^^ L[j] : Nat) : Int)).bind fun t367 => (if t367 < (d : Int) then none else plexuslaw23_BoundLexicode.l2 k true d M i ((j + 1 : Nat) : Int) (ints L) k0)) (fun k => ?_) ?_
    · simp only [plexuslaw23_BoundLexicode.l2]
      rw [if_pos (by omega), if_pos (by omega), if_pos (by rw [ints_len]; omega), if_pos (by omega), if_pos (by rw [ints_len]; omega), rd_ints L j hjl, rd_ints L i hi, xor_nat (by omega) (by omega), w64 (by omega) (by omega),
        if_pos (by omega), if_pos (by omega), if_pos hmem]
      rfl
    · refine Ev.bind (weight_f _ hw) ?_
      refine Ev.congr (f := fun k => plexuslaw23_BoundLexicode.l2 k true d M i ((j + 1 : Nat) : Int) (ints L) k0) (fun k => ?_) (ih (j + 1) (by omega))
      rw [if_neg (by omega)]

include hlt hsort hdist hcov hcl in
theorem lexi_l1 (M : List Bool) (hM : M.length = 2 ^ n) (hmk : ∀ x ∈ L, rdOf false M (x : Int) = true) (k0 : Int) :
    ∀ (m i : Nat), i + m = L.length → Ev (fun k => plexuslaw23_BoundLexicode.l1 k true d M i (ints L) k0) true := by
  intro m
  induction m with
  | zero =>
    intro i hi
    refine Ev.step (f := fun k => plexuslaw23_BoundLexicode.l3 k true d M (0 : Nat) (ints L) k0) (fun k => ?_) (lexi_l3 hdn hn hN hlt hsort hcov M hM k0 (2 ^ n) 0 (by omega))
    simp only [plexuslaw23_BoundLexicode.l1]
    rw [if_neg (by rw [ints_len]; omega)]
    rfl
  | succ m ih =>
    intro i hi
    refine Ev.step (f := fun k => plexuslaw23_BoundLexicode.l2 k true d M i (0 : Nat) (ints L) k0) (fun k => ?_) (lexi_l2 hdn hn hN hlt hsort hdist hcov hcl M hM hmk i (by omega) k0 (ih (i + 1) (by omega)) i 0 (by omega))
    simp only [plexuslaw23_BoundLexicode.l1]
    rw [if_pos (by rw [ints_len]; omega)]
    rfl

include hlt hsort hdist hcov hcl in
theorem lexi_l0 (k0 : Int) : ∀ (m i : Nat) (M : List Bool), i + m = L.length → M.length = 2 ^ n → (∀ j, (h : j < L.length) → j < i → rdOf false M (L[j] : Int) = true) →
      Ev (fun k => plexuslaw23_BoundLexicode.l0 k true d M i (ints L) k0) true := by
  have hlen := lexi_len hdn hn hN hlt hsort
  intro m
  induction m with
  | zero =>
    intro i M hi hM hmk
    refine Ev.step (f := fun k => plexuslaw23_BoundLexicode.l1 k true d M (0 : Nat) (ints L) k0) (fun k => ?_) (lexi_l1 hdn hn hN hlt hsort hdist hcov hcl M hM (fun x hx => ?_) k0 L.length 0 (by omega))
    · simp only [plexuslaw23_BoundLexicode.l0]
      rw [if_neg (by rw [ints_len]; omega)]
      rfl
    · obtain ⟨j, hj, rfl⟩ := List.getElem_of_mem hx
      exact hmk j hj (by omega)
  | succ m ih =>
    intro i M hi hM hmk
    have hil : i < L.length := by omega
    have hx : L[i] < 2 ^ n := hlt _ (List.getElem_mem hil)
    have next := ih (i + 1) (M.set L[i] true) (by omega) (by rw [List.length_set]; exact hM) (fun j hj hji => by
      have hxj : L[j] < 2 ^ n := hlt _ (List.getElem_mem hj)
      show (M.set L[i] true).getD ((L[j] : Nat) : Int).toNat false = true
      rw [Int.toNat_natCast, List.getD_eq_getElem?_getD, List.getElem?_set]
      by_cases he : L[i] = L[j]
      · rw [if_pos he, if_pos (by omega)]; rfl
      · rw [if_neg he]
        have hne : j ≠ i := fun e => he (by subst e; rfl)
        have := hmk j hj (by omega)
        have h2 : M.getD ((L[j] : Nat) : Int).toNat false = true := this
        rw [Int.toNat_natCast, List.getD_eq_getElem?_getD] at h2
        exact h2)
    refine Ev.step (f := fun k => plexuslaw23_BoundLexicode.l0 k true d (M.set L[i] true) ((i + 1 : Nat) : Int) (ints L) k0) (fun k => ?_) next
    simp only [plexuslaw23_BoundLexicode.l0]
    rw [if_pos (by rw [ints_len]; omega), if_pos (by omega), rd_ints L i hil, if_neg (by omega), if_neg (by omega), w64 (x := (i : Int) + 1) (by omega) (by omega), Int.toNat_natCast]
    by_cases hi0 : (i : Int) > 0
    · rw [if_pos hi0, w64 (by omega) (by omega), if_pos (by omega), if_pos (by rw [ints_len]; omega), show (i : Int) - 1 = ((i - 1 : Nat) : Int) by omega, rd_ints L (i - 1) (by omega)]
      have hs := (List.pairwise_iff_getElem.1 hsort) (i - 1) i (by omega) hil (by omega)
      rw [if_neg (by omega), if_pos (by omega), if_pos (by omega)]
      rfl
    · rw [if_neg hi0, if_pos (by omega), if_pos (by omega)]
      rfl
end
theorem lexi_exs : Ev (fun k => plexuslaw23_examples.f k) true := Ev.of (fun k => plexuslaw23_examples.mono k) (show plexuslaw23_examples.f 100 = some true by kernel_rfl)
theorem lexi_u8 {a : Int} (h : (Lit.int .u8 a).wf = true) : ∃ n : Nat, a = n ∧ n < 256 := by
  simp [Lit.wf, IntKind.min, IntKind.max, IntKind.signed, IntKind.bits] at h
  exact ⟨a.toNat, by omega, by omega⟩

theorem BoundLexicode : plexuslaw23_BoundLexicode.Pure := by
  intro a b ha hb
  obtain ⟨A, rfl, hA⟩ := lexi_u8 ha
  obtain ⟨B, rfl, hB⟩ := lexi_u8 hb
  have hL : wrap64 (1 + (Int.tmod (wrap64 (A : Int)) 9)) = ((1 + A % 9 : Nat) : Int) := by
    rw [w64 (x := (A : Int)) (by omega) (by omega), show (9 : Int) = ((9 : Nat) : Int) from rfl, show Int.tmod (A : Int) ((9 : Nat) : Int) = ((A % 9 : Nat) : Int) from rfl, w64 (by omega) (by omega)]
    simp
  obtain ⟨n, hn⟩ : ∃ n, n = 1 + A % 9 := ⟨_, rfl⟩
  rw [← hn] at hL
  have hBn : B % n < n := Nat.mod_lt _ (by omega)
  have hD : wrap64 (1 + (Int.tmod (wrap64 (B : Int)) (n : Int))) = ((1 + B % n : Nat) : Int) := by
    rw [w64 (x := (B : Int)) (by omega) (by omega), show Int.tmod (B : Int) (n : Int) = ((B % n : Nat) : Int) from rfl, w64 (by omega) (by omega)]
    simp
  obtain ⟨d, hd⟩ : ∃ d, d = 1 + B % n := ⟨_, rfl⟩
  rw [← hd] at hD
  have hn9 : n ≤ 9 := by omega
  have hN : 2 ^ n ≤ 512 := Nat.pow_le_pow_right (n := 2) (by decide) hn9
  have hd1 : 1 ≤ d := by omega
  have hdn : d ≤ n := by omega
  obtain ⟨hlt, hsort, hdist, hcov⟩ := GInv.all hd1 (2 ^ n)
  have hcl := lexi_closed hd1 hdn hn9
  have hgr := lexi_greedy hd1 hdn (show n ≤ 10 by omega)
  have h0 : 0 ∈ QTried d (2 ^ n) := by
    obtain ⟨x, hx, _⟩ := hcov 0 (Nat.pow_pos (by decide))
    have := hcl x x hx hx
    rwa [Nat.xor_self] at this
  generalize QTried d (2 ^ n) = L at hlt hsort hdist hcov hcl hgr h0
  have hlen : 0 < L.length := List.length_pos_of_mem h0
  have hz : rd (ints L) 0 = 0 := by
    obtain ⟨i, hi, e⟩ := List.getElem_of_mem h0
    have := rd_ints L 0 hlen
    rw [show ((0 : Nat) : Int) = 0 from rfl] at this
    rw [this]
    rcases Nat.eq_zero_or_pos i with h | h
    · subst h; omega
    · have := (List.pairwise_iff_getElem.1 hsort) 0 i hlen hi h
      omega
  refine Ev.rounds (r := true) ?_
  unfold plexuslaw23_BoundLexicode.f
  refine Ev.bind lexi_exs ?_
  simp only [if_true, hL, hD]
  refine Ev.congr (f := fun k => (plexuslaw23_greedy.f k n d).bind fun bt347 => (if bt347.2 = 0 then (if (bt347.1.length : Int) = 0 then (none) else (if 0 < (bt347.1.length : Int) then (if (rd bt347.1 0) = 0 then (plexuslaw23_BoundLexicode.l0 k true d (List.replicate (2 ^ n) false) 0 bt347.1 bt347.2) else (none)) else (none))) else (none))) (fun k => by
    rw [if_neg (by omega), power_f n (by omega)]
    simp only [Option.bind_some, Int.toNat_natCast, show (0 : Int) ≤ ((2 ^ n : Nat) : Int) from Int.natCast_nonneg _, show 2 ^ n ≤ 281474976710656 by omega, if_true]) ?_
  refine Ev.bind hgr ?_
  simp only [if_true]
  rw [ints_len]
  refine Ev.congr (f := fun k => plexuslaw23_BoundLexicode.l0 k true d (List.replicate (2 ^ n) false) (0 : Nat) (ints L) 0) (fun k => by
    rw [if_neg (by omega), if_pos (by omega), if_pos hz]
    rfl) ?_
  exact lexi_l0 hdn hn9 hN hlt hsort hdist hcov hcl 0 L.length 0 _ (by omega) (by simp) (fun j hj h => by omega)
end Go.Proofs.Ytcanekmlabehgaa.Pure
