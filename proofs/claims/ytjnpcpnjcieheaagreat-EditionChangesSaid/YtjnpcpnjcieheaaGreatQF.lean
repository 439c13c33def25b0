/- Forms of structures in the reference: arrangements, images, registries that are made. -/
import Derived.Test.YtjnpcpnjcieheaaGreatX19
import Derived.Test.YtjnpcpnjcieheaaGreatQM
import Derived.Test.YtjnpcpnjcieheaaGreatQD
namespace Go.Proofs.YtjnpcpnjcieheaaGreatQ
set_option linter.unusedVariables false
set_option linter.unusedSimpArgs false
open Go Go.RowKit Go.Proofs.YtjnpcpnjcieheaaGreat.P47 Go.Proofs.YtjnpcpnjcieheaaGreat.V48 Go.Proofs.YtjnpcpnjcieheaaGreatW.PrintWords Go.Proofs.YtjnpcpnjcieheaaGreatW.PrintLast Go.Proofs.YtjnpcpnjcieheaaGreatW.PrintMore
def Ev3 {α : Type} (g : Nat → Nat → Nat → Option α) (r : α) : Prop := ∃ K, ∀ m n k, K ≤ m → K ≤ n → K ≤ k → g m n k = some r
theorem Ev3.of {α : Type} {g : Nat → Nat → Option α} {r : α} (h : Ev2 g r) : Ev3 (fun _ n k => g n k) r := by
  obtain ⟨K, h⟩ := h
  exact ⟨K, fun m n k _ h2 h3 => h n k h2 h3⟩
theorem Ev3.diag {α : Type} {g : Nat → Nat → Nat → Option α} {r : α} (h : Ev3 g r) : Ev2 (fun n k => g k n k) r := by
  obtain ⟨K, h⟩ := h
  exact ⟨K, fun n k h2 h3 => h k n k h3 h2 h3⟩
theorem Ev3.step {α : Type} {g f : Nat → Nat → Nat → Option α} {r : α} (h : ∀ m n k, g (m + 1) n k = f m n k) (q : Ev3 f r) : Ev3 g r := by
  obtain ⟨K, q⟩ := q
  refine ⟨K + 1, fun m n k h1 h2 h3 => ?_⟩
  obtain ⟨m, rfl⟩ : ∃ i, m = i + 1 := ⟨m - 1, by omega⟩
  rw [h]; exact q m n k (by omega) (by omega) (by omega)
theorem Ev3.congr {α : Type} {g f : Nat → Nat → Nat → Option α} {r : α} (h : ∀ m n k, g m n k = f m n k) (q : Ev3 f r) : Ev3 g r := by
  obtain ⟨K, q⟩ := q
  exact ⟨K, fun m n k h1 h2 h3 => (h m n k).trans (q m n k h1 h2 h3)⟩
theorem Ev3.bind {α β : Type} {g : Nat → Option α} {f : Nat → Nat → Nat → α → Option β} {a : α} {r : β} (h : Ev g a) (q : Ev3 (fun m n k => f m n k a) r) : Ev3 (fun m n k => (g k).bind (f m n k)) r := by
  obtain ⟨K, h⟩ := h
  obtain ⟨L, q⟩ := q
  refine ⟨K + L, fun m n k h1 h2 h3 => ?_⟩
  show (g k).bind (f m n k) = some r
  rw [h k (by omega)]
  exact q m n k (by omega) (by omega) (by omega)
theorem ev3T {α : Type} {c : Prop} [Decidable c] {f g : Nat → Nat → Nat → Option α} {r : α} (h : c) (q : Ev3 f r) : Ev3 (fun m n k => if c then f m n k else g m n k) r := q.congr fun m n k => if_pos h
theorem ev3F {α : Type} {c : Prop} [Decidable c] {f g : Nat → Nat → Nat → Option α} {r : α} (h : ¬ c) (q : Ev3 g r) : Ev3 (fun m n k => if c then f m n k else g m n k) r := q.congr fun m n k => if_neg h
theorem Ev3.now {α : Type} (r : α) : Ev3 (fun _ _ _ => some r) r := ⟨0, fun _ _ _ _ _ _ => rfl⟩

theorem gd {α : Type} {l : List α} {i : Nat} {d : α} (h : i < l.length) : List.getD l (Int.toNat (i : Int)) d = l[i] := by
  rw [Int.toNat_natCast, List.getD_eq_getElem?_getD, List.getElem?_eq_getElem h]; rfl
/-! ### arrangements -/
def arr : Nat → List Int → List (List Int)
  | 0, _ => [[]]
  | n + 1, l => (List.range l.length).flatMap fun i => (arr n (l.eraseIdx i)).map (l.getD i 0 :: ·)
theorem len_flatMap_le {α β : Type} (f : α → List β) (B : Nat) : ∀ l : List α, (∀ x ∈ l, (f x).length ≤ B) → (l.flatMap f).length ≤ l.length * B
  | [], _ => by simp
  | x :: l, h => by
    have h1 := len_flatMap_le f B l fun y hy => h y (List.mem_cons_of_mem _ hy)
    have h2 := h x (List.mem_cons_self ..)
    rw [List.flatMap_cons, List.length_append, List.length_cons, Nat.succ_mul]
    omega
theorem arr_len : ∀ (n : Nat) (l : List Int), l.length = n → n ≤ 7 → (arr n l).length ≤ 7 ^ n
  | 0, _, _, _ => by simp [arr]
  | n + 1, l, hl, hn => by
    have := len_flatMap_le (fun i => (arr n (l.eraseIdx i)).map (l.getD i 0 :: ·)) (7 ^ n) (List.range l.length) (fun i hi => by
      rw [List.length_map]
      have hi := List.mem_range.1 hi
      exact arr_len n _ (by rw [List.length_eraseIdx, if_pos hi]; omega) (by omega))
    rw [List.length_range] at this
    refine Nat.le_trans (show (arr (n + 1) l).length ≤ _ from this) ?_
    rw [Nat.pow_succ, Nat.mul_comm]
    exact Nat.mul_le_mul_left _ (by omega)
theorem arr_mem : ∀ (n : Nat) (l : List Int), l.length = n → ∀ x ∈ arr n l, x.length = n
  | 0, _, _, x, hx => by obtain rfl := List.mem_singleton.1 hx; rfl
  | n + 1, l, hl, x, hx => by
    obtain ⟨i, hi, hx⟩ := List.mem_flatMap.1 hx
    have hi := List.mem_range.1 hi
    obtain ⟨y, hy, rfl⟩ := List.mem_map.1 hx
    rw [List.length_cons, arr_mem n _ (by rw [List.length_eraseIdx, if_pos hi]; omega) y hy]
theorem arr_ne : ∀ (n : Nat) (l : List Int), l.length = n → arr n l ≠ []
  | 0, _, _ => by simp [arr]
  | n + 1, l, hl => by
    have h := arr_ne n (l.eraseIdx 0) (by rw [List.length_eraseIdx, if_pos (by omega)]; omega)
    obtain ⟨y, hy⟩ := List.exists_mem_of_ne_nil _ h
    have : (l.getD 0 0 :: y) ∈ arr (n + 1) l := List.mem_flatMap.2 ⟨0, List.mem_range.2 (by omega), List.mem_map.2 ⟨y, hy, rfl⟩⟩
    intro q
    rw [q] at this
    exact absurd this (by simp)
theorem without_f (k : Nat) {l : List Int} (hl : l.length ≤ 1000) {i : Nat} (hi : i < l.length) : plexusref19_without.m k l (i : Int) = some (l.eraseIdx i) := by
  have e : List.eraseIdx l i = List.append (List.take i l) (List.drop (i + 1) l) := List.eraseIdx_eq_take_drop_succ ..
  rw [plexusref19_without.m_eq, inc64 (by omega), Int.toNat_natCast, Int.toNat_natCast, if_pos (by omega), if_pos (by omega), if_pos (by simp; omega), if_pos (by omega), if_pos (by omega), if_pos (by simp; omega), e]
theorem arr_l1 (k : Nat) (sf : List Int → Option (List (List Int))) {l : List Int} (hl : l.length ≤ 7) {i : Nat} (hi : i < l.length) {R : List (List Int)} (hR : R.length ≤ 1000000) (hm : ∀ x ∈ R, x.length ≤ 7) (n0 : Nat) :
    ∀ (p j n : Nat) (acc : List (List Int)), R.length - j = p → j ≤ R.length → p + 1 ≤ n → acc.length + p ≤ 100000000 →
      plexusref19_arranged.l1 n k sf n0 l (i : Int) R (j : Int) acc = plexusref19_arranged.l0 n0 k sf l ((i + 1 : Nat) : Int) (acc ++ (R.drop j).map (l.getD i 0 :: ·))
  | 0, j, n, acc, hp, hj, hn, ha => by
    obtain ⟨m, rfl⟩ : ∃ m, n = m + 1 := ⟨n - 1, by omega⟩
    rw [plexusref19_arranged.l1_succ, if_neg (dF (by omega)), inc64 (by omega), List.drop_eq_nil_of_le (by omega), List.map_nil, List.append_nil]
  | p + 1, j, n, acc, hp, hj, hn, ha => by
    obtain ⟨m, rfl⟩ : ∃ m, n = m + 1 := ⟨n - 1, by omega⟩
    have hlt : j < R.length := by omega
    have h7 := hm _ (List.getElem_mem hlt)
    have hg : l.getD i 0 = l[i] := by rw [List.getD_eq_getElem?_getD, List.getElem?_eq_getElem hi]; rfl
    rw [plexusref19_arranged.l1_succ, if_pos (dT (by omega)), if_pos (by omega), if_pos (by omega), if_pos (by omega), if_pos (by omega), gd hi, gd hlt, if_pos (by simp; omega), if_pos (by simp; omega), inc64 (by omega), arr_l1 k sf hl hi hR hm n0 p (j + 1) m _ (by omega) (by omega) (by omega) (by simp; omega)]
    rw [List.drop_eq_getElem_cons hlt, List.map_cons, hg, List.append_assoc]
    rfl
theorem arr_l0 (k : Nat) (sf : List Int → Option (List (List Int))) {n : Nat} (hn : n ≤ 6) (hk : 1000001 ≤ k) (hs : ∀ y : List Int, y.length = n → sf y = some (arr n y)) {l : List Int} (hl : l.length = n + 1) :
    ∀ (p i m : Nat) (acc : List (List Int)), l.length - i = p → i ≤ l.length → p + 1 ≤ m → acc.length + p * 1000000 ≤ 50000000 →
      plexusref19_arranged.l0 m k sf l (i : Int) acc = some (acc ++ (List.range' i p).flatMap fun i => (arr n (l.eraseIdx i)).map (l.getD i 0 :: ·))
  | 0, i, m, acc, hp, hi, hm, ha => by
    obtain ⟨q, rfl⟩ : ∃ q, m = q + 1 := ⟨m - 1, by omega⟩
    rw [plexusref19_arranged.l0_succ, if_neg (dF (by omega))]
    simp
  | p + 1, i, m, acc, hp, hi, hm, ha => by
    obtain ⟨q, rfl⟩ : ∃ q, m = q + 1 := ⟨m - 1, by omega⟩
    have hlt : i < l.length := by omega
    have hel : (l.eraseIdx i).length = n := by rw [List.length_eraseIdx, if_pos hlt]; omega
    have hlen := arr_len n _ hel (by omega)
    have h7 : 7 ^ n ≤ 7 ^ 6 := Nat.pow_le_pow_right (by decide) hn
    have h76 : (7 : Nat) ^ 6 = 117649 := by decide
    rw [plexusref19_arranged.l0_succ, if_pos (dT (by omega)), without_f k (by omega) hlt, Option.bind_some, hs _ hel, Option.bind_some]
    refine Eq.trans (arr_l1 k sf (by omega) hlt (R := arr n (l.eraseIdx i)) (by omega) (fun x hx => by rw [arr_mem n _ hel x hx]; omega) q (arr n (l.eraseIdx i)).length 0 k acc (by omega) (by omega) (by omega) (by omega)) ?_
    rw [List.drop_zero]
    rw [arr_l0 k sf hn hk hs hl p (i + 1) q _ (by omega) (by omega) (by omega) (by simp; omega), List.range'_succ, List.flatMap_cons, List.append_assoc]
theorem arr_r : ∀ (n : Nat) (l : List Int), l.length = n → n ≤ 7 → ∀ d k, n + 1 ≤ d → 1000001 ≤ k → plexusref19_arranged.r d k l = some (arr n l)
  | 0, l, hl, hn, d, k, hd, hk => by
    obtain ⟨e, rfl⟩ : ∃ e, d = e + 1 := ⟨d - 1, by omega⟩
    rw [plexusref19_arranged.r_succ, plexusref19_arranged.b_eq, if_pos (bT (by omega))]; rfl
  | n + 1, l, hl, hn, d, k, hd, hk => by
    obtain ⟨e, rfl⟩ : ∃ e, d = e + 1 := ⟨d - 1, by omega⟩
    rw [plexusref19_arranged.r_succ, plexusref19_arranged.b_eq, if_neg (bF (by omega))]
    refine Eq.trans (arr_l0 k _ (n := n) (by omega) hk (fun y hy => arr_r n y hy (by omega) e k (by omega) hk) hl l.length 0 k [] (by omega) (by omega) (by omega) (by simp; omega)) ?_
    rw [List.nil_append, ← List.range_eq_range']
    rfl
theorem arranged_f {l : List Int} (hl : l.length ≤ 7) : Ev (fun k => plexusref19_arranged.m k l) (arr l.length l) :=
  ⟨1000001, fun k hk => arr_r l.length l rfl hl k k (by omega) hk⟩
def idn (n : Nat) : List Int := (List.range n).map Int.ofNat
theorem idn_len (n : Nat) : (idn n).length = n := by simp [idn]
theorem perms_l0 {n : Nat} (hn : n ≤ 7) : ∀ (p i : Nat), n - i = p → i ≤ n → Ev2 (fun m k => plexusref19_Perms.l0 m k (n : Int) (i : Int) (idn i)) (arr n (idn n))
  | 0, i, hp, hi => by
    obtain rfl : i = n := by omega
    have h := arranged_f (l := idn i) (by rw [idn_len]; exact hn)
    rw [idn_len] at h
    exact Ev2.step (fun m k => plexusref19_Perms.l0_succ m k _ _ _) (ev2F (dF (by omega)) (Ev2.bind h (Ev2.now _)))
  | p + 1, i, hp, hi => by
    refine Ev2.step (fun m k => plexusref19_Perms.l0_succ m k _ _ _) (ev2T (dT (by omega)) (ev2T (by simp [idn_len]; omega) ?_))
    rw [inc64 (by omega)]
    have e : idn i ++ [((i : Nat) : Int)] = idn (i + 1) := by unfold idn; rw [List.range_succ, List.map_append]; rfl
    rw [e]
    exact perms_l0 hn p (i + 1) (by omega) (by omega)
theorem perms_f {n : Nat} (hn : n ≤ 7) : Ev (fun k => plexusref19_Perms.m k (n : Int)) (arr n (idn n)) :=
  evX (fun k => plexusref19_Perms.m_eq k _) (perms_l0 hn n 0 (by omega) (by omega)).diag
/-! ### images -/
theorem diff_l1 {g : List Int} (hg : g.length ≤ 1000) (c : Int) {i : Nat} (hi : i < g.length) {r : Bool} (hr : Ev2 (fun n k => plexusref06_Different.l0 n k g c ((i + 1 : Nat) : Int)) r) :
    ∀ (p j : Nat), i - j = p → j ≤ i → ∃ b, Ev3 (fun m n k => plexusref06_Different.l1 m k n g c (i : Int) (j : Int)) b
  | 0, j, hp, hj => by
    refine ⟨r, Ev3.step (fun m n k => plexusref06_Different.l1_succ m k n _ _ _ _) (ev3F (dF (by omega)) ?_)⟩
    rw [inc64 (by omega)]
    exact Ev3.of hr
  | p + 1, j, hp, hj => by
    by_cases h : (List.getD g (Int.toNat (j : Int)) (Int.ofNat 0) == List.getD g (Int.toNat (i : Int)) (Int.ofNat 0)) = true
    · exact ⟨false, Ev3.step (fun m n k => plexusref06_Different.l1_succ m k n _ _ _ _) (ev3T (dT (by omega)) (ev3T (by omega) (ev3T (by omega) (ev3T (by omega) (ev3T (by omega) (ev3T h (Ev3.now _)))))))⟩
    · obtain ⟨b, hb⟩ := diff_l1 hg c hi hr p (j + 1) (by omega) (by omega)
      refine ⟨b, Ev3.step (fun m n k => plexusref06_Different.l1_succ m k n _ _ _ _) (ev3T (dT (by omega)) (ev3T (by omega) (ev3T (by omega) (ev3T (by omega) (ev3T (by omega) (ev3F h ?_))))))⟩
      rw [inc64 (by omega)]
      exact hb
theorem diff_l0 {g : List Int} (hg : g.length ≤ 1000) (c : Int) : ∀ (p i : Nat), g.length - i = p → i ≤ g.length → ∃ b, Ev2 (fun n k => plexusref06_Different.l0 n k g c (i : Int)) b
  | 0, i, hp, hi => ⟨true, Ev2.step (fun n k => plexusref06_Different.l0_succ n k _ _ _) (ev2F (dF (by omega)) (Ev2.now _))⟩
  | p + 1, i, hp, hi => by
    by_cases h : decide (List.getD g (Int.toNat (i : Int)) (Int.ofNat 0) < 0) = true
    · exact ⟨false, Ev2.step (fun n k => plexusref06_Different.l0_succ n k _ _ _) (ev2T (dT (by omega)) (ev2T (by omega) (ev2T (by omega) (ev2T h (Ev2.now _)))))⟩
    by_cases h2 : decide (List.getD g (Int.toNat (i : Int)) (Int.ofNat 0) ≥ c) = true
    · exact ⟨false, Ev2.step (fun n k => plexusref06_Different.l0_succ n k _ _ _) (ev2T (dT (by omega)) (ev2T (by omega) (ev2T (by omega) (ev2F h (ev2T (by omega) (ev2T (by omega) (ev2T h2 (Ev2.now _))))))))⟩
    obtain ⟨r, hr⟩ := diff_l0 hg c p (i + 1) (by omega) (by omega)
    obtain ⟨b, hb⟩ := diff_l1 hg c (by omega) hr i 0 (by omega) (by omega)
    exact ⟨b, Ev2.step (fun n k => plexusref06_Different.l0_succ n k _ _ _) (ev2T (dT (by omega)) (ev2T (by omega) (ev2T (by omega) (ev2F h (ev2T (by omega) (ev2T (by omega) (ev2F h2 hb.diag)))))))⟩
theorem diff_f {g : List Int} (hg : g.length ≤ 1000) (c : Int) : ∃ b, Ev (fun k => plexusref06_Different.m k g c) b := by
  obtain ⟨b, hb⟩ := diff_l0 hg c g.length 0 (by omega) (by omega)
  exact ⟨b, evX (fun k => plexusref06_Different.m_eq k _ _) hb.diag⟩
theorem perm_f {g : List Int} (hg : g.length ≤ 1000) (c : Int) : ∃ b, Ev (fun k => plexusref06_Perm.m k g c) b := by
  by_cases h : ((g.length : Int) != c) = true
  · exact ⟨false, evX (fun k => plexusref06_Perm.m_eq k _ _) (evT h (Ev.now _))⟩
  · obtain ⟨b, hb⟩ := diff_f hg c
    exact ⟨b, evX (fun k => plexusref06_Perm.m_eq k _ _) (evF h (Ev.bind hb (Ev.now _)))⟩
theorem moved_l0 (a : Int) {g : List Int} (hg : g.length ≤ 1000) : ∀ (p i : Nat) (x : Int), g.length - i = p → i ≤ g.length → U x → ∃ r, U r ∧ Ev2 (fun n k => plexusref06_Moved.l0 n k a g x (i : Int)) r
  | 0, i, x, hp, hi, hx => ⟨x, hx, Ev2.step (fun n k => plexusref06_Moved.l0_succ n k _ _ _ _) (ev2F (dF (by omega)) (Ev2.now _))⟩
  | p + 1, i, x, hp, hi, hx => by
    obtain ⟨b, hb⟩ := bit_f a (i := (i : Int)) (by omega) (by omega)
    cases b with
    | false =>
      obtain ⟨r, hr, q⟩ := moved_l0 a hg p (i + 1) x (by omega) (by omega) hx
      refine ⟨r, hr, Ev2.step (fun n k => plexusref06_Moved.l0_succ n k _ _ _ _) (ev2T (dT (by omega)) (Ev2.bind ⟨0, fun k _ => hb k⟩ (ev2F (by decide) ?_)))⟩
      rw [inc64 (by omega)]; exact q
    | true =>
      obtain ⟨r, hr, q⟩ := moved_l0 a hg p (i + 1) _ (by omega) (by omega) (wrap_U _)
      refine ⟨r, hr, Ev2.step (fun n k => plexusref06_Moved.l0_succ n k _ _ _ _) (ev2T (dT (by omega)) (Ev2.bind ⟨0, fun k _ => hb k⟩ (ev2T rfl (ev2T (by omega) (ev2T (by omega) (ev2F (by rw [u64_wrap]; omega) ?_))))))⟩
      rw [inc64 (by omega)]; exact q
theorem moved_f (a : Int) {g : List Int} (hg : g.length ≤ 1000) : ∃ r, U r ∧ Ev (fun k => plexusref06_Moved.m k a g) r := by
  obtain ⟨r, hr, q⟩ := moved_l0 a hg g.length 0 0 (by omega) (by omega) ⟨by decide, by decide⟩
  exact ⟨r, hr, evX (fun k => plexusref06_Moved.m_eq k _ _) q.diag⟩
theorem image_l0 {x : Int × List Int} (hx : x.2.length ≤ 900) {g : List Int} (hg : g.length ≤ 1000) : ∀ (p i : Nat) (o : List Int), x.2.length - i = p → i ≤ x.2.length → Asc o → o.length = i → (∀ z ∈ o, U z) →
    ∃ r : Int × List Int, r.1 = x.1 ∧ r.2.length = x.2.length ∧ (∀ z ∈ r.2, U z) ∧ Ev2 (fun n k => plexusref06_Image.l0 n k x g (i : Int) o) r
  | 0, i, o, hp, hi, h1, h2, h3 => ⟨(x.1, o), rfl, by show o.length = _; omega, h3, Ev2.step (fun n k => plexusref06_Image.l0_succ n k _ _ _ _) (ev2F (dF (by omega)) (Ev2.now _))⟩
  | p + 1, i, o, hp, hi, h1, h2, h3 => by
    obtain ⟨z, hz, q⟩ := moved_f (List.getD x.2 (Int.toNat (i : Int)) (Int.ofNat 0)) hg
    obtain ⟨o2, p1, p2, p3, p4⟩ := with_f h1 z (by omega)
    obtain ⟨r, r1, r2, r3, r4⟩ := image_l0 hx hg p (i + 1) o2 (by omega) (by omega) p1 (by omega) (fun y hy => (p3 y hy).elim (fun e => e ▸ hz) (h3 y))
    refine ⟨r, r1, r2, r3, Ev2.step (fun n k => plexusref06_Image.l0_succ n k _ _ _ _) (ev2T (dT (by omega)) (ev2T (by omega) (ev2T (by omega) (Ev2.bind q (Ev2.bind p4 ?_)))))⟩
    rw [inc64 (by omega)]; exact r4
/-- A structure that is left whole. -/
structure Inc (m : Nat) (x : Int × List Int) : Prop where
  pts : S x.1
  len : x.2.length ≤ m
  blk : ∀ z ∈ x.2, U z
theorem image_f {x : Int × List Int} (hx : x.2.length ≤ 900) (hu : ∀ z ∈ x.2, U z) {g : List Int} (hg : g.length ≤ 1000) : ∃ r : Int × List Int, r.1 = x.1 ∧ r.2.length = x.2.length ∧ (∀ z ∈ r.2, U z) ∧ Ev (fun k => plexusref06_Image.m k x g) r := by
  obtain ⟨b, hb⟩ := perm_f hg x.1
  cases b with
  | false => exact ⟨(x.1, x.2), rfl, rfl, hu, evX (fun k => plexusref06_Image.m_eq k _ _) (Ev.bind hb (evT rfl (Ev.now _)))⟩
  | true =>
    obtain ⟨r, r1, r2, r3, r4⟩ := image_l0 hx hg x.2.length 0 [] (by omega) (by omega) List.Pairwise.nil rfl (by simp)
    exact ⟨r, r1, r2, r3, evX (fun k => plexusref06_Image.m_eq k _ _) (Ev.bind hb (evF (by decide) r4.diag))⟩
theorem less_l0 {a b : List Int} (h : a.length = b.length) (ha : a.length ≤ 1000) : ∀ (p i : Nat), a.length - i = p → i ≤ a.length → ∃ r, Ev2 (fun n k => plexusref19_Less.l0 n k a b (i : Int)) r
  | 0, i, hp, hi => ⟨false, Ev2.step (fun n k => plexusref19_Less.l0_succ n k _ _ _) (ev2F (dF (by omega)) (Ev2.now _))⟩
  | p + 1, i, hp, hi => by
    by_cases q : (List.getD a (Int.toNat (i : Int)) (Int.ofNat 0) != List.getD b (Int.toNat (i : Int)) (Int.ofNat 0)) = true
    · exact ⟨_, Ev2.step (fun n k => plexusref19_Less.l0_succ n k _ _ _) (ev2T (dT (by omega)) (ev2T (by omega) (ev2T (by omega) (ev2T (by omega) (ev2T (by omega) (ev2T q (ev2T (by omega) (ev2T (by omega) (ev2T (by omega) (ev2T (by omega) (Ev2.now _)))))))))))⟩
    · obtain ⟨r, hr⟩ := less_l0 h ha p (i + 1) (by omega) (by omega)
      refine ⟨r, Ev2.step (fun n k => plexusref19_Less.l0_succ n k _ _ _) (ev2T (dT (by omega)) (ev2T (by omega) (ev2T (by omega) (ev2T (by omega) (ev2T (by omega) (ev2F q ?_))))))⟩
      rw [inc64 (by omega)]; exact hr
theorem less_f {a b : List Int} (h : a.length = b.length) (ha : a.length ≤ 1000) : ∃ r, Ev (fun k => plexusref19_Less.m k a b) r := by
  obtain ⟨r, hr⟩ := less_l0 h ha a.length 0 (by omega) (by omega)
  exact ⟨r, evX (fun k => plexusref19_Less.m_eq k _ _) hr.diag⟩
theorem valid_l0 {x : Int × List Int} (hx : x.2.length ≤ 1000) : ∀ (p i : Nat), x.2.length - i = p → i ≤ x.2.length → ∃ r, Ev2 (fun n k => plexusref06_Valid.l0 n k x (i : Int)) r
  | 0, i, hp, hi => ⟨true, Ev2.step (fun n k => plexusref06_Valid.l0_succ n k _ _) (ev2F (dF (by omega)) (Ev2.now _))⟩
  | p + 1, i, hp, hi => by
    obtain ⟨r, hr⟩ := valid_l0 hx p (i + 1) (by omega) (by omega)
    by_cases q : (Go.Vx.shF BinOp.shr IntKind.u64 (List.getD x.2 (Int.toNat (i : Int)) (Int.ofNat 0)) (IntKind.wrap IntKind.u64 x.1) != 0) = true
    · exact ⟨false, Ev2.step (fun n k => plexusref06_Valid.l0_succ n k _ _) (ev2T (dT (by omega)) (ev2T (by omega) (ev2T (by omega) (ev2F (by rw [u64_wrap]; omega) (ev2T q (Ev2.now _))))))⟩
    by_cases h0 : i = 0
    · refine ⟨r, Ev2.step (fun n k => plexusref06_Valid.l0_succ n k _ _) (ev2T (dT (by omega)) (ev2T (by omega) (ev2T (by omega) (ev2F (by rw [u64_wrap]; omega) (ev2F q (ev2F (dF (by omega)) ?_))))))⟩
      rw [inc64 (by omega)]; exact hr
    have e : IntKind.wrap IntKind.i64 ((i : Int) - 1) = ((i - 1 : Nat) : Int) := by rw [wrap_i64', w64 (by omega) (by omega)]; omega
    by_cases q2 : decide (List.getD x.2 (Int.toNat (IntKind.wrap IntKind.i64 ((i : Int) - 1))) (Int.ofNat 0) > List.getD x.2 (Int.toNat (i : Int)) (Int.ofNat 0)) = true
    · exact ⟨false, Ev2.step (fun n k => plexusref06_Valid.l0_succ n k _ _) (ev2T (dT (by omega)) (ev2T (by omega) (ev2T (by omega) (ev2F (by rw [u64_wrap]; omega) (ev2F q (ev2T (dT (by omega)) (ev2T (by rw [e]; omega) (ev2T (by rw [e]; omega) (ev2T (by omega) (ev2T (by omega) (ev2T q2 (Ev2.now _))))))))))))⟩
    · refine ⟨r, Ev2.step (fun n k => plexusref06_Valid.l0_succ n k _ _) (ev2T (dT (by omega)) (ev2T (by omega) (ev2T (by omega) (ev2F (by rw [u64_wrap]; omega) (ev2F q (ev2T (dT (by omega)) (ev2T (by rw [e]; omega) (ev2T (by rw [e]; omega) (ev2T (by omega) (ev2T (by omega) (ev2F q2 ?_)))))))))))⟩
      rw [inc64 (by omega)]; exact hr
theorem valid_f {x : Int × List Int} (hx : x.2.length ≤ 1000) : ∃ r, Ev (fun k => plexusref06_Valid.m k x) r := by
  by_cases h1 : decide (x.1 < 1) = true
  · exact ⟨false, evX (fun k => plexusref06_Valid.m_eq k _) (evT h1 (Ev.now _))⟩
  by_cases h2 : decide (x.1 > 16) = true
  · exact ⟨false, evX (fun k => plexusref06_Valid.m_eq k _) (evF h1 (evT h2 (Ev.now _)))⟩
  by_cases h3 : decide ((x.2.length : Int) > 64) = true
  · exact ⟨false, evX (fun k => plexusref06_Valid.m_eq k _) (evF h1 (evF h2 (evT h3 (Ev.now _))))⟩
  obtain ⟨r, hr⟩ := valid_l0 hx x.2.length 0 (by omega) (by omega)
  exact ⟨r, evX (fun k => plexusref06_Valid.m_eq k _) (evF h1 (evF h2 (evF h3 hr.diag)))⟩

end Go.Proofs.YtjnpcpnjcieheaaGreatQ
