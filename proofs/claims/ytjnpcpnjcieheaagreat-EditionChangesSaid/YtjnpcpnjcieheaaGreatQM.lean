/- Structures that are made of bytes: at most 7 points, at most 10 blocks, in order. -/
import Derived.Test.YtjnpcpnjcieheaaGreatX06
import Derived.Test.YtjnpcpnjcieheaaGreatQV
import Derived.Test.YtjnpcpnjcieheaaGreatQSeal
namespace Go.Proofs.YtjnpcpnjcieheaaGreatQ
set_option linter.unusedVariables false
set_option linter.unusedSimpArgs false
set_option linter.unusedSectionVars false
open Go Go.RowKit Go.Proofs.YtjnpcpnjcieheaaGreat.V48 Go.Proofs.YtjnpcpnjcieheaaGreatW.PrintWords Go.Proofs.YtjnpcpnjcieheaaGreatW.PrintLast Go.Proofs.YtjnpcpnjcieheaaGreatW.PrintMore
def BY (x : Int) : Prop := 0 ≤ x ∧ x < 256
def PB (v : Nat) (b : Int) : Prop := 0 ≤ b ∧ b < 2 ^ v
theorem PB_zero (v : Nat) : PB v 0 := by
  have : (0 : Int) < ((2 ^ v : Nat) : Int) := Int.ofNat_lt.2 (Nat.two_pow_pos v)
  exact ⟨by decide, by simpa using this⟩
theorem u64_wrap (x : Int) : IntKind.wrap IntKind.u64 x = x % 18446744073709551616 := rfl
theorem ofInt_nat (m : Nat) (h : m < 2 ^ 64) : (BitVec.ofInt (IntKind.bits IntKind.u64) (m : Int)).toNat = m := by
  rw [BitVec.ofInt_natCast, BitVec.toNat_ofNat]; exact Nat.mod_eq_of_lt h
theorem and_le (a : Int) {m : Nat} (h : m < 2 ^ 64) : 0 ≤ IntKind.wrap IntKind.u64 (↑(BitVec.toNat (BitVec.ofInt (IntKind.bits IntKind.u64) a &&& BitVec.ofInt (IntKind.bits IntKind.u64) (m : Int))) : Int) ∧ IntKind.wrap IntKind.u64 (↑(BitVec.toNat (BitVec.ofInt (IntKind.bits IntKind.u64) a &&& BitVec.ofInt (IntKind.bits IntKind.u64) (m : Int))) : Int) ≤ m := by
  have e : BitVec.toNat (BitVec.ofInt (IntKind.bits IntKind.u64) a &&& BitVec.ofInt (IntKind.bits IntKind.u64) (m : Int)) ≤ m := by
    rw [BitVec.toNat_and, ofInt_nat m h]; exact Nat.and_le_right
  rw [u64_wrap]
  omega
theorem or_PB {v : Nat} (hv : v ≤ 60) {a b : Int} (ha : PB v a) (hb : PB v b) : PB v (IntKind.wrap IntKind.u64 (↑(BitVec.toNat (BitVec.ofInt (IntKind.bits IntKind.u64) a ||| BitVec.ofInt (IntKind.bits IntKind.u64) b)) : Int)) := by
  obtain ⟨x, rfl⟩ := Int.eq_ofNat_of_zero_le ha.1
  obtain ⟨y, rfl⟩ := Int.eq_ofNat_of_zero_le hb.1
  have h2 : 2 ^ v ≤ 2 ^ 60 := Nat.pow_le_pow_right (by decide) hv
  have hx : x < 2 ^ v := by have := ha.2; exact_mod_cast this
  have hy : y < 2 ^ v := by have := hb.2; exact_mod_cast this
  have e : BitVec.toNat (BitVec.ofInt (IntKind.bits IntKind.u64) (x : Int) ||| BitVec.ofInt (IntKind.bits IntKind.u64) (y : Int)) = x ||| y := by
    rw [BitVec.toNat_or, ofInt_nat x (by omega), ofInt_nat y (by omega)]
  rw [e, u64_wrap]
  have h3 : (x ||| y) < 2 ^ v := Nat.or_lt_two_pow hx hy
  have h4 : (((x ||| y : Nat) : Int)) % 18446744073709551616 = ((x ||| y : Nat) : Int) := by omega
  rw [h4]
  exact ⟨by omega, by exact_mod_cast h3⟩
theorem shl_one (j : Nat) (h : j ≤ 60) : Go.Vx.shF BinOp.shl IntKind.u64 1 (IntKind.wrap IntKind.u64 (j : Int)) = ((2 ^ j : Nat) : Int) := by
  have e : IntKind.wrap IntKind.u64 (j : Int) = (j : Int) := by rw [u64_wrap]; omega
  rw [e]
  show IntKind.wrap IntKind.u64 (1 * 2 ^ min (Int.toNat (j : Int)) 64) = _
  rw [Int.toNat_natCast, Nat.min_eq_left (by omega), Int.one_mul, u64_wrap]
  have h2 : 2 ^ j ≤ 2 ^ 60 := Nat.pow_le_pow_right (by decide) h
  have h3 : (2 : Int) ^ j = ((2 ^ j : Nat) : Int) := by simp
  rw [h3]
  generalize 2 ^ j = z at h2 ⊢
  omega
theorem shl_PB {v j : Nat} (hv : v ≤ 60) (h : j < v) : PB v (Go.Vx.shF BinOp.shl IntKind.u64 1 (IntKind.wrap IntKind.u64 (j : Int))) := by
  rw [shl_one j (by omega)]
  have : 2 ^ j < 2 ^ v := Nat.pow_lt_pow_right (by decide) h
  exact ⟨Int.natCast_nonneg _, by exact_mod_cast this⟩
theorem mask_eq {v : Nat} (hv : v ≤ 60) : IntKind.wrap IntKind.u64 (Go.Vx.shF BinOp.shl IntKind.u64 1 (IntKind.wrap IntKind.u64 (v : Int)) - 1) = ((2 ^ v - 1 : Nat) : Int) := by
  rw [shl_one v hv, u64_wrap]
  have h2 : 2 ^ v ≤ 2 ^ 60 := Nat.pow_le_pow_right (by decide) hv
  have h3 : 1 ≤ 2 ^ v := Nat.one_le_two_pow
  omega
/-- A number with a mask. -/
theorem and_PB {v : Nat} (hv : v ≤ 60) (a : Int) : PB v (IntKind.wrap IntKind.u64 (↑(BitVec.toNat (BitVec.ofInt (IntKind.bits IntKind.u64) a &&& BitVec.ofInt (IntKind.bits IntKind.u64) (IntKind.wrap IntKind.u64 (Go.Vx.shF BinOp.shl IntKind.u64 1 (IntKind.wrap IntKind.u64 (v : Int)) - 1)))) : Int)) := by
  rw [mask_eq hv]
  have h2 : 2 ^ v ≤ 2 ^ 60 := Nat.pow_le_pow_right (by decide) hv
  have h3 : 1 ≤ 2 ^ v := Nat.one_le_two_pow
  have := and_le a (m := 2 ^ v - 1) (by omega)
  generalize IntKind.wrap IntKind.u64 _ = z at this ⊢
  have h4 : ((2 ^ v : Nat) : Int) = 2 ^ v := by simp
  refine ⟨this.1, ?_⟩
  rw [← h4]
  omega
theorem shr_PB {v : Nat} {a : Int} (ha : PB v a) (s : Int) : PB v (Go.Vx.shF BinOp.shr IntKind.u64 a s) := by
  show PB v (a.fdiv (2 ^ min s.toNat IntKind.u64.bits))
  have h3 : (2 : Int) ^ min s.toNat IntKind.u64.bits = ((2 ^ min s.toNat IntKind.u64.bits : Nat) : Int) := by simp
  obtain ⟨x, rfl⟩ := Int.eq_ofNat_of_zero_le ha.1
  rw [h3, Int.fdiv_eq_ediv_of_nonneg _ (Int.natCast_nonneg _)]
  have := Nat.div_le_self x (2 ^ min s.toNat IntKind.u64.bits)
  have e : ((x : Nat) : Int) / ((2 ^ min s.toNat IntKind.u64.bits : Nat) : Int) = ((x / 2 ^ min s.toNat IntKind.u64.bits : Nat) : Int) := by simp
  rw [e]
  exact ⟨Int.natCast_nonneg _, Int.lt_of_le_of_lt (Int.ofNat_le.2 this) ha.2⟩
theorem bit_f (a : Int) {i : Int} (h0 : 0 ≤ i) (h1 : i < 1000) : ∃ b, ∀ k, plexusref06_Bit.m k a i = some b := by
  exact ⟨_, fun k => (plexusref06_Bit.m_eq k a i).trans (if_neg (by rw [u64_wrap]; omega))⟩
theorem at_f {l : List Int} (hl : ∀ x ∈ l, BY x) {i : Nat} : ∃ b, BY b ∧ ∀ k, plexusref06_At.m k l (i : Int) = some b := by
  by_cases h : i < l.length
  · have hb := hl _ (List.getElem_mem h)
    refine ⟨l[i], hb, fun k => ?_⟩
    rw [plexusref06_At.m_eq, if_neg (dF (by omega)), if_pos (by omega), if_pos (by omega), wrap_i64', Int.toNat_natCast, List.getD_eq_getElem?_getD, List.getElem?_eq_getElem h]
    exact congrArg some (w64 (by have := hb.1; simp; omega) (by have := hb.2; simp; omega))
  · refine ⟨0, ⟨by decide, by decide⟩, fun k => ?_⟩
    rw [plexusref06_At.m_eq, if_pos (dT (by omega))]
theorem rem_range {x m : Nat} : Go.Vx.divF BinOp.rem IntKind.i64 (x : Int) (m : Int) = ((x % m : Nat) : Int) := by
  rw [rem_tmod, Int.tmod_eq_emod_of_nonneg (by omega)]; omega
theorem inc64 {i : Nat} (h : i < 1000000) : IntKind.wrap IntKind.i64 ((i : Int) + 1) = ((i + 1 : Nat) : Int) := by rw [wrap_i64', w64 (by omega) (by omega)]; omega
theorem turned_l0 (a : Int) {v t : Nat} (hv : v ≤ 16) (h1 : 1 ≤ v) (ht : t ≤ 100) : ∀ (m i : Nat) (x : Int), v - i = m → PB v x → ∃ r, PB v r ∧ Ev2 (fun n k => plexusref06_Turned.l0 n k a (v : Int) (t : Int) x (i : Int)) r
  | 0, i, x, hm, hx => ⟨x, hx, Ev2.step (fun n k => plexusref06_Turned.l0_succ n k _ _ _ _ _) (ev2F (dF (by omega)) (Ev2.now _))⟩
  | m + 1, i, x, hm, hx => by
    obtain ⟨b, hb⟩ := bit_f a (i := (i : Int)) (by omega) (by omega)
    have e1 : Go.Vx.divF BinOp.rem IntKind.i64 (IntKind.wrap IntKind.i64 ((i : Int) + (t : Int))) (v : Int) = (((i + t) % v : Nat) : Int) := by
      rw [wrap_i64', w64 (by omega) (by omega), show (i : Int) + (t : Int) = ((i + t : Nat) : Int) by omega, rem_range]
    have hlt : (i + t) % v < v := Nat.mod_lt _ (by omega)
    cases b with
    | true =>
      obtain ⟨r, hr, h⟩ := turned_l0 a hv h1 ht m (i + 1) _ (by omega) (or_PB (by omega) hx (shl_PB (j := (i + t) % v) (by omega) hlt))
      refine ⟨r, hr, Ev2.step (fun n k => plexusref06_Turned.l0_succ n k _ _ _ _ _) (ev2T (dT (by omega)) (Ev2.bind ⟨0, fun k _ => hb k⟩ (ev2T rfl (ev2F (by omega) ?_))))⟩
      rw [e1, inc64 (by omega)]
      exact ev2F (by rw [u64_wrap]; omega) h
    | false =>
      obtain ⟨r, hr, h⟩ := turned_l0 a hv h1 ht m (i + 1) x (by omega) hx
      refine ⟨r, hr, Ev2.step (fun n k => plexusref06_Turned.l0_succ n k _ _ _ _ _) (ev2T (dT (by omega)) (Ev2.bind ⟨0, fun k _ => hb k⟩ (ev2F (by decide) ?_)))⟩
      rw [inc64 (by omega)]
      exact h
theorem turned_f (a : Int) {v t : Nat} (hv : v ≤ 16) (h1 : 1 ≤ v) (ht : t ≤ 100) : ∃ r, PB v r ∧ Ev (fun k => plexusref06_Turned.m k a (v : Int) (t : Int)) r := by
  obtain ⟨r, hr, h⟩ := turned_l0 a hv h1 ht v 0 0 (by omega) (PB_zero v)
  exact ⟨r, hr, evX (fun k => plexusref06_Turned.m_eq k _ _ _) h.diag⟩
theorem size_l0 (a : Int) : ∀ (m i : Nat) (x : Int), 64 - i = m → ∃ r, Ev2 (fun n k => plexusref06_Size.l0 n k a x (i : Int)) r
  | 0, i, x, hm => ⟨x, Ev2.step (fun n k => plexusref06_Size.l0_succ n k _ _ _) (ev2F (dF (by omega)) (Ev2.now _))⟩
  | m + 1, i, x, hm => by
    obtain ⟨b, hb⟩ := bit_f a (i := (i : Int)) (by omega) (by omega)
    cases b with
    | true =>
      obtain ⟨r, h⟩ := size_l0 a m (i + 1) (IntKind.wrap IntKind.i64 (x + 1)) (by omega)
      refine ⟨r, Ev2.step (fun n k => plexusref06_Size.l0_succ n k _ _ _) (ev2T (dT (by omega)) (Ev2.bind ⟨0, fun k _ => hb k⟩ (ev2T rfl ?_)))⟩
      rw [inc64 (by omega)]
      exact h
    | false =>
      obtain ⟨r, h⟩ := size_l0 a m (i + 1) x (by omega)
      refine ⟨r, Ev2.step (fun n k => plexusref06_Size.l0_succ n k _ _ _) (ev2T (dT (by omega)) (Ev2.bind ⟨0, fun k _ => hb k⟩ (ev2F (by decide) ?_)))⟩
      rw [inc64 (by omega)]
      exact h
theorem size_f (a : Int) : ∃ r, Ev (fun k => plexusref06_Size.m k a) r := by
  obtain ⟨r, h⟩ := size_l0 a 64 0 0 rfl
  exact ⟨r, evX (fun k => plexusref06_Size.m_eq k _) h.diag⟩
/-! ### lists in order -/
abbrev Asc (l : List Int) : Prop := l.Pairwise (· ≤ ·)
theorem with_l0 {l : List Int} (hs : Asc l) (b : Int) (hl : l.length ≤ 1000) : ∀ (m i : Nat), l.length - i = m → i ≤ l.length → (∀ x ∈ l.take i, x ≤ b) →
    ∃ out, Asc out ∧ out.length = l.length + 1 ∧ (∀ x ∈ out, x = b ∨ x ∈ l) ∧ Ev2 (fun n k => plexusref06_With.l0 n k l b (i : Int)) out := by
  have fin : ∀ i, i ≤ l.length → (∀ x ∈ l.take i, x ≤ b) → (∀ x ∈ l.drop i, b ≤ x) → ∃ out, Asc out ∧ out.length = l.length + 1 ∧ (∀ x ∈ out, x = b ∨ x ∈ l) ∧ Ev2 (fun n k => plexusref06_With.j0 k l b (i : Int)) out := fun i hi h1 h2 => by
    refine ⟨l.take i ++ [b] ++ l.drop i, ?_, by simp; omega, fun x hx => ?_, ?_⟩
    · have h0 : Asc (l.take i ++ l.drop i) := by rw [List.take_append_drop]; exact hs
      rw [Asc, List.pairwise_append] at h0
      rw [Asc, List.append_assoc, List.pairwise_append]
      refine ⟨h0.1, ?_, fun x hx y hy => ?_⟩
      · rw [List.singleton_append, List.pairwise_cons]
        exact ⟨h2, h0.2.1⟩
      · rcases List.mem_append.1 hy with q | q
        · rw [List.mem_singleton.1 q]; exact h1 x hx
        · exact h0.2.2 x hx y q
    · rcases List.mem_append.1 hx with q | q
      · rcases List.mem_append.1 q with q | q
        · exact .inr (List.mem_of_mem_take q)
        · exact .inl (List.mem_singleton.1 q)
      · exact .inr (List.mem_of_mem_drop q)
    · refine Ev2.congr (fun n k => plexusref06_With.j0_eq k _ _ _) ?_
      rw [Int.toNat_natCast]
      refine ev2T (by omega) (ev2T (by omega) (ev2T (by simp; omega) (ev2T (by simp; omega) (ev2T (by omega) (ev2T (by omega) (ev2T (by simp; omega) (Ev2.now _)))))))
  intro m
  induction m with
  | zero =>
    intro i hm hi ht
    obtain ⟨out, q1, q2, q3, q4⟩ := fin i hi ht (by rw [List.drop_eq_nil_of_le (by omega)]; simp)
    exact ⟨out, q1, q2, q3, Ev2.step (fun n k => plexusref06_With.l0_succ n k _ _ _) (ev2F (dF (by omega)) q4)⟩
  | succ m ih =>
    intro i hm hi ht
    have hlt : i < l.length := by omega
    have e2 : List.getD l (Int.toNat (i : Int)) (Int.ofNat 0) = l[i] := by
      rw [Int.toNat_natCast, List.getD_eq_getElem?_getD, List.getElem?_eq_getElem hlt]; rfl
    by_cases hb : l[i] ≤ b
    · obtain ⟨out, q1, q2, q3, q4⟩ := ih (i + 1) (by omega) (by omega) (fun x hx => by
        rw [List.take_succ_eq_append_getElem hlt] at hx
        rcases List.mem_append.1 hx with q | q
        · exact ht x q
        · rw [List.mem_singleton.1 q]; exact hb)
      refine ⟨out, q1, q2, q3, Ev2.step (fun n k => plexusref06_With.l0_succ n k _ _ _) (ev2T (dT (by omega)) (ev2T (by omega) (ev2T (by omega) ?_)))⟩
      rw [e2, inc64 (by omega)]
      exact ev2T (dT hb) q4
    · obtain ⟨out, q1, q2, q3, q4⟩ := fin i hi ht (fun x hx => by
        have hs' : (l.take i ++ l.drop i).Pairwise (· ≤ ·) := by rw [List.take_append_drop]; exact hs
        have h3 := (List.pairwise_append.1 hs').2.1
        rw [List.drop_eq_getElem_cons hlt, List.pairwise_cons] at h3
        rw [List.drop_eq_getElem_cons hlt] at hx
        rcases List.mem_cons.1 hx with q | q
        · omega
        · have := h3.1 x q; omega)
      refine ⟨out, q1, q2, q3, Ev2.step (fun n k => plexusref06_With.l0_succ n k _ _ _) (ev2T (dT (by omega)) (ev2T (by omega) (ev2T (by omega) ?_)))⟩
      rw [e2]
      exact ev2F (dF hb) q4
theorem with_f {l : List Int} (hs : Asc l) (b : Int) (hl : l.length ≤ 1000) : ∃ out, Asc out ∧ out.length = l.length + 1 ∧ (∀ x ∈ out, x = b ∨ x ∈ l) ∧ Ev (fun k => plexusref06_With.m k l b) out := by
  obtain ⟨out, q1, q2, q3, q4⟩ := with_l0 hs b hl l.length 0 (by omega) (by omega) (by simp)
  exact ⟨out, q1, q2, q3, evX (fun k => plexusref06_With.m_eq k _ _) q4.diag⟩
theorem sorted_l0 {l : List Int} (hl : l.length ≤ 900) : ∀ (m i : Nat) (o : List Int), l.length - i = m → i ≤ l.length → Asc o → o.length = i → (∀ x ∈ o, x ∈ l) →
    ∃ out, Asc out ∧ out.length = l.length ∧ (∀ x ∈ out, x ∈ l) ∧ Ev2 (fun n k => plexusref06_Sorted.l0 n k l (i : Int) o) out
  | 0, i, o, hm, hi, h1, h2, h3 => ⟨o, h1, by omega, h3, Ev2.step (fun n k => plexusref06_Sorted.l0_succ n k _ _ _) (ev2F (dF (by omega)) (Ev2.now _))⟩
  | m + 1, i, o, hm, hi, h1, h2, h3 => by
    have hlt : i < l.length := by omega
    have e2 : List.getD l (Int.toNat (i : Int)) (Int.ofNat 0) = l[i] := by
      rw [Int.toNat_natCast, List.getD_eq_getElem?_getD, List.getElem?_eq_getElem hlt]; rfl
    obtain ⟨o2, p1, p2, p3, p4⟩ := with_f h1 l[i] (by omega)
    obtain ⟨out, q1, q2, q3, q4⟩ := sorted_l0 hl m (i + 1) o2 (by omega) (by omega) p1 (by omega) (fun x hx => by
      rcases p3 x hx with q | q
      · rw [q]; exact List.getElem_mem hlt
      · exact h3 x q)
    refine ⟨out, q1, q2, q3, Ev2.step (fun n k => plexusref06_Sorted.l0_succ n k _ _ _) (ev2T (dT (by omega)) (ev2T (by omega) (ev2T (by omega) ?_)))⟩
    rw [e2, inc64 (by omega)]
    exact Ev2.bind p4 q4
theorem sorted_f {l : List Int} (hl : l.length ≤ 900) : ∃ out, Asc out ∧ out.length = l.length ∧ (∀ x ∈ out, x ∈ l) ∧ Ev (fun k => plexusref06_Sorted.m k l) out := by
  obtain ⟨out, q1, q2, q3, q4⟩ := sorted_l0 hl l.length 0 [] (by omega) (by omega) List.Pairwise.nil rfl (by simp)
  exact ⟨out, q1, q2, q3, evX (fun k => plexusref06_Sorted.m_eq k _) q4.diag⟩
/-! ### made structures -/
structure MadeOK (v : Nat) (x : Int × List Int) : Prop where
  pts : x.1 = v
  len : x.2.length ≤ 10
  asc : Asc x.2
  pb : ∀ b ∈ x.2, PB v b
section
variable {v : Nat} (hv : v ≤ 7) (h1 : 1 ≤ v) {r : Int} (hr : IntKind.wrap IntKind.i64 (1 + Go.Vx.divF BinOp.rem IntKind.i64 r 5) = (v : Int))
include hv h1 hr
theorem lim_j0 {l : List Int} (hl : l.length ≤ 500) (hp : ∀ b ∈ l, PB v b) : ∃ x, MadeOK v x ∧ Ev (fun k => plexusref06_Limited.j0 k 5 r l) x := by
  by_cases h : 10 < l.length
  · obtain ⟨out, q1, q2, q3, q4⟩ := sorted_f (l := l.take 10) (by simp; omega)
    refine ⟨(v, out), ⟨rfl, by rw [q2]; simp; omega, q1, fun b hb => hp b (List.mem_of_mem_take (q3 b hb))⟩, evX (fun k => plexusref06_Limited.j0_eq k _ _ _) ?_⟩
    rw [hr]
    exact evT (dT (by omega)) (evT (by omega) (Ev.bind q4 (Ev.now _)))
  · obtain ⟨out, q1, q2, q3, q4⟩ := sorted_f (l := l) (by omega)
    refine ⟨(v, out), ⟨rfl, by rw [q2]; show l.length ≤ 10; omega, q1, fun b hb => hp b (q3 b hb)⟩, evX (fun k => plexusref06_Limited.j0_eq k _ _ _) ?_⟩
    rw [hr]
    exact evF (dF (by omega)) (Ev.bind q4 (Ev.now _))
theorem app_PB {l : List Int} {b : Int} (hp : ∀ b ∈ l, PB v b) (hb : PB v b) : ∀ c ∈ l ++ [b], PB v c := fun c hc => by
  rcases List.mem_append.1 hc with q | q
  · exact hp c q
  · rw [List.mem_singleton.1 q]; exact hb
theorem lim_l0 (a : Int) : ∀ (m i : Nat) (l : List Int), v - i = m → i ≤ v → l.length = i → (∀ b ∈ l, PB v b) → ∃ x, MadeOK v x ∧ Ev2 (fun n k => plexusref06_Limited.l0 n k 5 r a (i : Int) l) x
  | 0, i, l, hm, hi, hl, hp => by
    obtain ⟨x, q1, q2⟩ := lim_j0 hv h1 hr (l := l) (by omega) hp
    refine ⟨x, q1, Ev2.step (fun n k => plexusref06_Limited.l0_succ n k _ _ _ _ _) ?_⟩
    rw [hr]
    exact ev2F (dF (by omega)) (Ev2.of q2)
  | m + 1, i, l, hm, hi, hl, hp => by
    obtain ⟨t, ht, h⟩ := turned_f (IntKind.wrap IntKind.u64 (↑(BitVec.toNat (BitVec.ofInt (IntKind.bits IntKind.u64) (IntKind.wrap IntKind.u64 a) &&& BitVec.ofInt (IntKind.bits IntKind.u64) (IntKind.wrap IntKind.u64 (Go.Vx.shF BinOp.shl IntKind.u64 1 (IntKind.wrap IntKind.u64 (v : Int)) - 1)))) : Int)) (v := v) (t := i) (by omega) h1 (by omega)
    obtain ⟨x, q1, q2⟩ := lim_l0 a m (i + 1) (l ++ [t]) (by omega) (by omega) (by simp; omega) (app_PB hv h1 hr hp ht)
    refine ⟨x, q1, Ev2.step (fun n k => plexusref06_Limited.l0_succ n k _ _ _ _ _) ?_⟩
    rw [hr]
    refine ev2T (dT (by omega)) (Ev2.bind h (ev2T (by simp; omega) ?_))
    rw [inc64 (by omega)]
    exact q2
theorem lim_l1 : ∀ (m i : Nat) (l : List Int), v - i = m → i ≤ v → l.length ≤ 10 * i → (∀ b ∈ l, PB v b) → ∃ x, MadeOK v x ∧ Ev2 (fun n k => plexusref06_Limited.l1 n k 5 r (i : Int) l) x
  | 0, i, l, hm, hi, hl, hp => by
    obtain ⟨x, q1, q2⟩ := lim_j0 hv h1 hr (l := l) (by omega) hp
    refine ⟨x, q1, Ev2.step (fun n k => plexusref06_Limited.l1_succ n k _ _ _ _) ?_⟩
    rw [hr]
    exact ev2F (dF (by omega)) (Ev2.of q2)
  | m + 1, i, l, hm, hi, hl, hp => by
    have inner : ∀ (p j : Nat) (o : List Int), i - j = p → j ≤ i → o.length ≤ 10 * i + j → (∀ b ∈ o, PB v b) → ∃ x, MadeOK v x ∧ ∃ K, ∀ n2 n1 k, K ≤ n2 → K ≤ n1 → K ≤ k → plexusref06_Limited.l2 n2 k n1 5 r (i : Int) (j : Int) o = some x := by
      intro p
      induction p with
      | zero =>
        intro j o hj hj2 ho hpo
        obtain ⟨x, q1, K, q2⟩ := lim_l1 m (i + 1) o (by omega) (by omega) (by omega) hpo
        refine ⟨x, q1, K + 1, fun n2 n1 k a b c => ?_⟩
        obtain ⟨n2, rfl⟩ : ∃ z, n2 = z + 1 := ⟨n2 - 1, by omega⟩
        rw [plexusref06_Limited.l2_succ, if_neg (dF (by omega)), inc64 (by omega)]
        exact q2 n1 k (by omega) (by omega)
      | succ p ih =>
        intro j o hj hj2 ho hpo
        obtain ⟨x, q1, K, q2⟩ := ih (j + 1) _ (by omega) (by omega) (by rw [List.length_append]; show o.length + 1 ≤ _; omega) (app_PB hv h1 hr hpo (or_PB (v := v) (by omega) (shl_PB (v := v) (j := i) (by omega) (by omega)) (shl_PB (v := v) (j := j) (by omega) (by omega))))
        refine ⟨x, q1, K + 1, fun n2 n1 k a b c => ?_⟩
        obtain ⟨n2, rfl⟩ : ∃ z, n2 = z + 1 := ⟨n2 - 1, by omega⟩
        rw [plexusref06_Limited.l2_succ, if_pos (dT (by omega)), if_neg (by rw [u64_wrap]; omega), if_neg (by rw [u64_wrap]; omega), if_pos (by simp; omega), inc64 (by omega)]
        exact q2 n2 n1 k (by omega) (by omega) (by omega)
    obtain ⟨x, q1, K, q2⟩ := inner i 0 l (by omega) (by omega) (by omega) hp
    refine ⟨x, q1, Ev2.step (f := fun n k => plexusref06_Limited.l2 k k n 5 r (i : Int) 0 l) (fun n k => ?_) ⟨K, fun n k a b => q2 k n k b a b⟩⟩
    rw [plexusref06_Limited.l1_succ, hr, if_pos (dT (by omega))]
theorem lim_l3 : ∀ (m i : Nat) (l : List Int), 7 - i = m → i ≤ 7 → l.length = i → (∀ b ∈ l, PB v b) → ∃ x, MadeOK v x ∧ Ev2 (fun n k => plexusref06_Limited.l3 n k 5 r (i : Int) l) x
  | 0, i, l, hm, hi, hl, hp => by
    obtain ⟨x, q1, q2⟩ := lim_j0 hv h1 hr (l := l) (by omega) hp
    refine ⟨x, q1, Ev2.step (fun n k => plexusref06_Limited.l3_succ n k _ _ _ _) ?_⟩
    exact ev2F (dF (by omega)) (Ev2.of q2)
  | m + 1, i, l, hm, hi, hl, hp => by
    obtain ⟨t, ht, h⟩ := turned_f 11 (v := 7) (t := i) (by omega) (by omega) (by omega)
    obtain ⟨x, q1, q2⟩ := lim_l3 m (i + 1) (l ++ [_]) (by omega) (by omega) (by simp; omega) (app_PB hv h1 hr hp (and_PB (v := v) (by omega) t))
    refine ⟨x, q1, Ev2.step (fun n k => plexusref06_Limited.l3_succ n k _ _ _ _) ?_⟩
    rw [hr]
    refine ev2T (dT (by omega)) (Ev2.bind h (ev2T (by simp; omega) ?_))
    rw [inc64 (by omega)]
    exact q2
theorem four64 {i : Nat} (h : i < 1000) : IntKind.wrap IntKind.i64 (4 + (i : Int)) = ((4 + i : Nat) : Int) := by rw [wrap_i64', w64 (by omega) (by omega)]; omega
theorem lim_l4 {a0 : List Int} (ha : ∀ x ∈ a0, BY x) (a : Int) {c : Int} {q : Nat} (hq : q ≤ 10) (hc : IntKind.wrap IntKind.i64 (1 + Go.Vx.divF BinOp.rem IntKind.i64 c 10) = (q : Int)) : ∀ (m i : Nat) (l : List Int), q - i = m → i ≤ q → l.length ≤ i → (∀ b ∈ l, PB v b) → ∃ x, MadeOK v x ∧ Ev2 (fun n k => plexusref06_Limited.l4 n k a0 5 r a c (i : Int) l) x
  | 0, i, l, hm, hi, hl, hp => by
    obtain ⟨x, q1, q2⟩ := lim_j0 hv h1 hr (l := l) (by omega) hp
    refine ⟨x, q1, Ev2.step (fun n k => plexusref06_Limited.l4_succ n k _ _ _ _ _ _ _) ?_⟩
    rw [hc]
    exact ev2F (dF (by omega)) (Ev2.of q2)
  | m + 1, i, l, hm, hi, hl, hp => by
    obtain ⟨b, hb, hat⟩ := at_f ha (i := 4 + i)
    obtain ⟨x, q1, q2⟩ := lim_l4 ha a hq hc m (i + 1) (l ++ [_]) (by omega) (by omega) (by simp; omega) (app_PB hv h1 hr hp (shr_PB (v := v) (and_PB (v := v) (by omega) (IntKind.wrap IntKind.u64 a)) (IntKind.wrap IntKind.u64 (Go.Vx.divF BinOp.rem IntKind.i64 b 2))))
    refine ⟨x, q1, Ev2.step (fun n k => plexusref06_Limited.l4_succ n k _ _ _ _ _ _ _) ?_⟩
    rw [hc, hr, four64 hv h1 hr (by omega)]
    refine ev2T (dT (by omega)) (Ev2.bind ⟨0, fun k _ => hat k⟩ (ev2F (by rw [u64_wrap]; omega) (ev2T (by simp; omega) ?_)))
    rw [inc64 (by omega)]
    exact q2
theorem lim_l5 {a0 : List Int} (ha : ∀ x ∈ a0, BY x) {c : Int} {q : Nat} (hq : q ≤ 10) (hc : IntKind.wrap IntKind.i64 (1 + Go.Vx.divF BinOp.rem IntKind.i64 c 10) = (q : Int)) : ∀ (m i : Nat) (l : List Int), q - i = m → i ≤ q → l.length ≤ i → (∀ b ∈ l, PB v b) → ∃ x, MadeOK v x ∧ Ev2 (fun n k => plexusref06_Limited.l5 n k a0 5 r c (i : Int) l) x
  | 0, i, l, hm, hi, hl, hp => by
    obtain ⟨x, q1, q2⟩ := lim_j0 hv h1 hr (l := l) (by omega) hp
    refine ⟨x, q1, Ev2.step (fun n k => plexusref06_Limited.l5_succ n k _ _ _ _ _ _) ?_⟩
    rw [hc]
    exact ev2F (dF (by omega)) (Ev2.of q2)
  | m + 1, i, l, hm, hi, hl, hp => by
    obtain ⟨b, hb, hat⟩ := at_f ha (i := 4 + i)
    have hand := and_PB (v := v) (by omega) (IntKind.wrap IntKind.u64 b)
    obtain ⟨z, hz⟩ := size_f (IntKind.wrap IntKind.u64 (↑(BitVec.toNat (BitVec.ofInt (IntKind.bits IntKind.u64) (IntKind.wrap IntKind.u64 b) &&& BitVec.ofInt (IntKind.bits IntKind.u64) (IntKind.wrap IntKind.u64 (Go.Vx.shF BinOp.shl IntKind.u64 1 (IntKind.wrap IntKind.u64 (v : Int)) - 1)))) : Int))
    by_cases h3 : z = 3
    · obtain ⟨x, q1, q2⟩ := lim_l5 ha hq hc m (i + 1) (l ++ [_]) (by omega) (by omega) (by simp; omega) (app_PB hv h1 hr hp hand)
      refine ⟨x, q1, Ev2.step (fun n k => plexusref06_Limited.l5_succ n k _ _ _ _ _ _) ?_⟩
      rw [hc, hr, four64 hv h1 hr (by omega)]
      refine ev2T (dT (by omega)) (Ev2.bind ⟨0, fun k _ => hat k⟩ (Ev2.bind hz (ev2T (bT h3) (ev2T (by simp; omega) ?_))))
      rw [inc64 (by omega)]
      exact q2
    · obtain ⟨x, q1, q2⟩ := lim_l5 ha hq hc m (i + 1) l (by omega) (by omega) (by omega) hp
      refine ⟨x, q1, Ev2.step (fun n k => plexusref06_Limited.l5_succ n k _ _ _ _ _ _) ?_⟩
      rw [hc, hr, four64 hv h1 hr (by omega)]
      refine ev2T (dT (by omega)) (Ev2.bind ⟨0, fun k _ => hat k⟩ (Ev2.bind hz (ev2F (bF h3) ?_)))
      rw [inc64 (by omega)]
      exact q2
theorem lim_l6 {a0 : List Int} (ha : ∀ x ∈ a0, BY x) {c : Int} {q : Nat} (hq : q ≤ 10) (hc : IntKind.wrap IntKind.i64 (1 + Go.Vx.divF BinOp.rem IntKind.i64 c 10) = (q : Int)) : ∀ (m i : Nat) (l : List Int), q - i = m → i ≤ q → l.length ≤ i → (∀ b ∈ l, PB v b) → ∃ x, MadeOK v x ∧ Ev2 (fun n k => plexusref06_Limited.l6 n k a0 5 r c (i : Int) l) x
  | 0, i, l, hm, hi, hl, hp => by
    obtain ⟨x, q1, q2⟩ := lim_j0 hv h1 hr (l := l) (by omega) hp
    refine ⟨x, q1, Ev2.step (fun n k => plexusref06_Limited.l6_succ n k _ _ _ _ _ _) ?_⟩
    rw [hc]
    exact ev2F (dF (by omega)) (Ev2.of q2)
  | m + 1, i, l, hm, hi, hl, hp => by
    obtain ⟨b, hb, hat⟩ := at_f ha (i := 4 + i)
    have hand := and_PB (v := v) (by omega) (IntKind.wrap IntKind.u64 b)
    obtain ⟨x, q1, q2⟩ := lim_l6 ha hq hc m (i + 1) (l ++ [_]) (by omega) (by omega) (by simp; omega) (app_PB hv h1 hr hp hand)
    refine ⟨x, q1, Ev2.step (fun n k => plexusref06_Limited.l6_succ n k _ _ _ _ _ _) ?_⟩
    rw [hc, hr, four64 hv h1 hr (by omega)]
    refine ev2T (dT (by omega)) (Ev2.bind ⟨0, fun k _ => hat k⟩ (ev2T (by simp; omega) ?_))
    rw [inc64 (by omega)]
    exact q2
end
theorem evdiag {α : Type} {P : α → Prop} {g : Nat → Nat → Option α} (h : ∃ x, P x ∧ Ev2 g x) : ∃ x, P x ∧ Ev (fun k => g k k) x := by
  obtain ⟨x, h1, h2⟩ := h
  exact ⟨x, h1, h2.diag⟩
theorem pick_f {a0 : List Int} (ha : ∀ x ∈ a0, BY x) : ∃ v x, 1 ≤ v ∧ v ≤ 5 ∧ MadeOK v x ∧ Ev (fun k => plexusref06_Pick.m k a0) x := by
  obtain ⟨r0, b0, e0⟩ := at_f ha (i := 0)
  obtain ⟨r1, b1, e1⟩ := at_f ha (i := 1)
  obtain ⟨r2, b2, e2⟩ := at_f ha (i := 2)
  obtain ⟨r3, b3, e3⟩ := at_f ha (i := 3)
  obtain ⟨c1, rfl⟩ := Int.eq_ofNat_of_zero_le b1.1
  obtain ⟨c3, rfl⟩ := Int.eq_ofNat_of_zero_le b3.1
  have h1 := b1.2
  have h3 := b3.2
  have hr : IntKind.wrap IntKind.i64 (1 + Go.Vx.divF BinOp.rem IntKind.i64 ((c1 : Nat) : Int) 5) = ((1 + c1 % 5 : Nat) : Int) := by
    rw [show (5 : Int) = ((5 : Nat) : Int) from rfl, rem_range, wrap_i64', w64 (by omega) (by omega)]; omega
  have hc : IntKind.wrap IntKind.i64 (1 + Go.Vx.divF BinOp.rem IntKind.i64 ((c3 : Nat) : Int) 10) = ((1 + c3 % 10 : Nat) : Int) := by
    rw [show (10 : Int) = ((10 : Nat) : Int) from rfl, rem_range, wrap_i64', w64 (by omega) (by omega)]; omega
  have hv7 : 1 + c1 % 5 ≤ 7 := by omega
  have hv1 : 1 ≤ 1 + c1 % 5 := by omega
  have hv5 : 1 + c1 % 5 ≤ 5 := by omega
  generalize 1 + c1 % 5 = v at hr hv7 hv1 hv5
  have hq : 1 + c3 % 10 ≤ 10 := by omega
  generalize 1 + c3 % 10 = q at hc hq
  have j1 : ∀ z : Bool, ∃ x, MadeOK v x ∧ Ev (fun k => plexusref06_Limited.j1 k a0 5 r0 ((c1 : Nat) : Int) r2 ((c3 : Nat) : Int) z) x := fun z => by
    have go : ∀ (g : Nat → Option (Int × List Int)), (∀ k, plexusref06_Limited.j1 k a0 5 r0 ((c1 : Nat) : Int) r2 ((c3 : Nat) : Int) z = g k) → (∃ x, MadeOK v x ∧ Ev g x) → ∃ x, MadeOK v x ∧ Ev (fun k => plexusref06_Limited.j1 k a0 5 r0 ((c1 : Nat) : Int) r2 ((c3 : Nat) : Int) z) x := fun g e h => by
      obtain ⟨x, p1, p2⟩ := h
      exact ⟨x, p1, evX e p2⟩
    refine go _ (fun k => plexusref06_Limited.j1_eq k _ _ _ _ _ _ _) ?_
    have pick : ∀ {c : Prop} [Decidable c] {f g : Nat → Option (Int × List Int)}, (∃ x, MadeOK v x ∧ Ev f x) → (∃ x, MadeOK v x ∧ Ev g x) → ∃ x, MadeOK v x ∧ Ev (fun k => if c then f k else g k) x := fun {c} _ {f g} hf hg => by
      by_cases h : c
      · obtain ⟨x, p1, p2⟩ := hf; exact ⟨x, p1, evT h p2⟩
      · obtain ⟨x, p1, p2⟩ := hg; exact ⟨x, p1, evF h p2⟩
    refine pick ?_ (pick ?_ (pick ?_ (pick ?_ (pick ?_ ?_))))
    · exact evdiag (lim_l0 hv7 hv1 hr r2 v 0 [] (by omega) (by omega) rfl (by simp))
    · exact evdiag (lim_l1 hv7 hv1 hr v 0 [] (by omega) (by omega) (by simp) (by simp))
    · exact evdiag (lim_l3 hv7 hv1 hr 7 0 [] (by omega) (by omega) rfl (by simp))
    · exact evdiag (lim_l4 hv7 hv1 hr ha r2 hq hc q 0 [] (by omega) (by omega) (by simp) (by simp))
    · exact evdiag (lim_l5 hv7 hv1 hr ha hq hc q 0 [] (by omega) (by omega) (by simp) (by simp))
    · exact evdiag (lim_l6 hv7 hv1 hr ha hq hc q 0 [] (by omega) (by omega) (by simp) (by simp))
  have lim : ∃ x, MadeOK v x ∧ Ev (fun k => plexusref06_Limited.m k a0 5) x := by
    by_cases h0 : Go.Vx.divF BinOp.rem IntKind.i64 r0 8 = 0
    · obtain ⟨x, p1, p2⟩ := j1 (Go.Vx.divF BinOp.rem IntKind.i64 r0 8 == 0)
      refine ⟨x, p1, evX (fun k => plexusref06_Limited.m_eq k _ _) ?_⟩
      refine Ev.bind ⟨0, fun k _ => e0 k⟩ (Ev.bind ⟨0, fun k _ => e1 k⟩ (evF (by decide) ?_))
      rw [hr]
      exact evF (by rw [u64_wrap]; omega) (Ev.bind ⟨0, fun k _ => e2 k⟩ (Ev.bind ⟨0, fun k _ => e3 k⟩ (evT (bT h0) p2)))
    · obtain ⟨x, p1, p2⟩ := j1 (Go.Vx.divF BinOp.rem IntKind.i64 r0 8 == 1)
      refine ⟨x, p1, evX (fun k => plexusref06_Limited.m_eq k _ _) ?_⟩
      refine Ev.bind ⟨0, fun k _ => e0 k⟩ (Ev.bind ⟨0, fun k _ => e1 k⟩ (evF (by decide) ?_))
      rw [hr]
      exact evF (by rw [u64_wrap]; omega) (Ev.bind ⟨0, fun k _ => e2 k⟩ (Ev.bind ⟨0, fun k _ => e3 k⟩ (evF (bF h0) p2)))
  obtain ⟨x, p1, p2⟩ := lim
  exact ⟨v, x, hv1, hv5, p1, evX (fun k => plexusref06_Pick.m_eq k _) (Ev.bind p2 (Ev.now _))⟩
end Go.Proofs.YtjnpcpnjcieheaaGreatQ
