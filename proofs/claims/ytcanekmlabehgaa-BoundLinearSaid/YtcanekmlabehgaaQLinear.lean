/- Linear codes: the bound of Griesmer, by the residual code; and the words that rows span. In plain lists of numbers. -/
import Derived.Test.YtcanekmlabehgaaQCode
namespace Go.Proofs.YtcanekmlabehgaaQ
set_option linter.unusedVariables false
set_option linter.unusedSimpArgs false

theorem and_mod (x y : Nat) : (x &&& y) % 2 = (x % 2) * (y % 2) := by
  have h := @Nat.and_mod_two_eq_one x y
  have h1 : (x &&& y) % 2 = 0 ∨ (x &&& y) % 2 = 1 := by omega
  have h2 : x % 2 = 0 ∨ x % 2 = 1 := by omega
  have h3 : y % 2 = 0 ∨ y % 2 = 1 := by omega
  rcases h1 with h1 | h1 <;> rcases h2 with h2 | h2 <;> rcases h3 with h3 | h3 <;> simp_all
theorem and_div (x y : Nat) : (x &&& y) / 2 = x / 2 &&& y / 2 := Nat.and_div_two
/-- The part of the mask M where c is 0. -/
def resid (M c : Nat) : Nat := M ^^^ (M &&& c)
theorem resid_mod (M c : Nat) : resid M c % 2 = (M % 2 + (M % 2) * (c % 2)) % 2 := by unfold resid; rw [xor_mod, and_mod]
theorem resid_div (M c : Nat) : resid M c / 2 = resid (M / 2) (c / 2) := by unfold resid; rw [xor_div, and_div]
theorem pop_split (n : Nat) : ∀ M c, pop n M = pop n (c &&& M) + pop n (resid M c) := by
  induction n with
  | zero => intro M c; rfl
  | succ n ih =>
    intro M c
    simp only [pop, and_mod, and_div, resid_mod, resid_div]
    have := ih (M / 2) (c / 2)
    have h2 : M % 2 = 0 ∨ M % 2 = 1 := by omega
    have h3 : c % 2 = 0 ∨ c % 2 = 1 := by omega
    rcases h2 with h2 | h2 <;> rcases h3 with h3 | h3 <;> simp [h2, h3] <;> omega
theorem pop_pair (n : Nat) : ∀ M c x, pop n (x &&& M) + pop n ((x ^^^ c) &&& M) = pop n (c &&& M) + 2 * pop n (x &&& resid M c) := by
  induction n with
  | zero => intro M c x; rfl
  | succ n ih =>
    intro M c x
    simp only [pop, and_mod, and_div, xor_mod, xor_div, resid_mod, resid_div]
    have := ih (M / 2) (c / 2) (x / 2)
    have h1 : x % 2 = 0 ∨ x % 2 = 1 := by omega
    have h2 : M % 2 = 0 ∨ M % 2 = 1 := by omega
    have h3 : c % 2 = 0 ∨ c % 2 = 1 := by omega
    rcases h1 with h1 | h1 <;> rcases h2 with h2 | h2 <;> rcases h3 with h3 | h3 <;> simp [h1, h2, h3] <;> omega
theorem xor_cancel (a b : Nat) : a ^^^ b ^^^ b = a := by rw [Nat.xor_assoc, Nat.xor_self, Nat.xor_zero]
theorem xor_eq_zero {a b : Nat} (h : a ^^^ b = 0) : a = b := by
  have := congrArg (· ^^^ b) h
  simp only [Nat.zero_xor] at this
  rw [xor_cancel] at this
  exact this
def gsum : Nat → Nat → Nat
  | 0, _ => 0
  | k + 1, d => d + gsum k ((d + 1) / 2)
theorem gsum_mono : ∀ k {d e : Nat}, d ≤ e → gsum k d ≤ gsum k e
  | 0, _, _, _ => Nat.le_refl _
  | k + 1, d, e, h => Nat.add_le_add h (gsum_mono k (by omega))
theorem least_exists (C : List Nat) (f : Nat → Nat) (h : ∃ c ∈ C, c ≠ 0) : ∃ c ∈ C, c ≠ 0 ∧ ∀ x ∈ C, x ≠ 0 → f c ≤ f x := by
  apply Classical.byContradiction
  intro hn
  have key : ∀ w, ∀ c ∈ C, c ≠ 0 → f c ≠ w := by
    intro w
    induction w using Nat.strongRecOn with
    | _ w ih =>
      intro c hc h0 hw
      apply hn
      refine ⟨c, hc, h0, fun x hx hx0 => ?_⟩
      rcases Nat.lt_or_ge (f x) (f c) with h | h
      · exact absurd rfl (ih (f x) (by omega) x hx hx0)
      · exact h
  obtain ⟨c, hc, h0⟩ := h
  exact key _ c hc h0 rfl
theorem nodup_filter (p : Nat → Bool) {C : List Nat} (h : C.Nodup) : (C.filter p).Nodup := List.Nodup.sublist List.filter_sublist h
theorem nodup_map_xor (c : Nat) {C : List Nat} (h : C.Nodup) : (C.map (· ^^^ c)).Nodup := by
  refine List.Pairwise.map _ (fun a b hab e => hab ?_) h
  have := congrArg (· ^^^ c) e
  simp only [xor_cancel] at this
  exact this
theorem half_len (C : List Nat) (hn : C.Nodup) (hc : ∀ x y, x ∈ C → y ∈ C → x ^^^ y ∈ C) (c p : Nat) (hcC : c ∈ C) (hp : c.testBit p = true) : 2 * (C.filter fun x => !x.testBit p).length = C.length := by
  have h1 : (C.filter fun x => !x.testBit p).length + (C.filter fun x => x.testBit p).length = C.length := by
    induction C with
    | nil => rfl
    | cons a l ih =>
      clear ih
      generalize a :: l = m
      induction m with
      | nil => rfl
      | cons b m ih => cases hb : b.testBit p <;> simp [hb] <;> omega
  have h2 : (C.filter fun x => !x.testBit p).length ≤ (C.filter fun x => x.testBit p).length := by
    have := List.Nodup.length_le_of_subset (nodup_map_xor c (nodup_filter (fun x => !x.testBit p) hn)) (l₂ := C.filter fun x => x.testBit p) (fun y hy => by
      obtain ⟨x, hx, rfl⟩ := List.mem_map.1 hy
      obtain ⟨hx1, hx2⟩ := List.mem_filter.1 hx
      refine List.mem_filter.2 ⟨hc _ _ hx1 hcC, ?_⟩
      simp at hx2
      rw [Nat.testBit_xor, hx2, hp]; rfl)
    rw [List.length_map] at this
    exact this
  have h3 : (C.filter fun x => x.testBit p).length ≤ (C.filter fun x => !x.testBit p).length := by
    have := List.Nodup.length_le_of_subset (nodup_map_xor c (nodup_filter (fun x => x.testBit p) hn)) (l₂ := C.filter fun x => !x.testBit p) (fun y hy => by
      obtain ⟨x, hx, rfl⟩ := List.mem_map.1 hy
      obtain ⟨hx1, hx2⟩ := List.mem_filter.1 hx
      refine List.mem_filter.2 ⟨hc _ _ hx1 hcC, ?_⟩
      rw [Nat.testBit_xor, hx2, hp]; rfl)
    rw [List.length_map] at this
    exact this
  omega
theorem griesmer_bound : ∀ (k d M : Nat) (C : List Nat), C.Nodup → (∀ x y, x ∈ C → y ∈ C → x ^^^ y ∈ C) → C.length = 2 ^ k → (∀ x ∈ C, x ≠ 0 → d ≤ pop 16 (x &&& M)) → 1 ≤ d → gsum k d ≤ pop 16 M
  | 0, d, M, C, _, _, _, _, _ => Nat.zero_le _
  | k + 1, d, M, C, hn, hc, hl, hw, hd => by
    have hpos : 0 < 2 ^ k := Nat.pow_pos (by decide)
    have hex : ∃ c ∈ C, c ≠ 0 := by
      apply Classical.byContradiction
      intro h
      have hz : ∀ x ∈ C, x < 1 := fun x hx => by
        rcases Nat.eq_zero_or_pos x with h0 | h0
        · omega
        · exact absurd ⟨x, hx, by omega⟩ h
      have := nodup_bound 1 C hn hz
      rw [hl, Nat.pow_succ] at this
      omega
    obtain ⟨c, hcC, hc0, hmin⟩ := least_exists C (fun x => pop 16 (x &&& M)) hex
    obtain ⟨p, hp⟩ := Nat.exists_testBit_of_ne_zero hc0
    have hlen := half_len C hn hc c p hcC hp
    rw [hl, Nat.pow_succ] at hlen
    have ih := griesmer_bound k ((pop 16 (c &&& M) + 1) / 2) (resid M c) (C.filter fun x => !x.testBit p) (nodup_filter _ hn)
      (fun x y hx hy => by
        obtain ⟨hx1, hx2⟩ := List.mem_filter.1 hx
        obtain ⟨hy1, hy2⟩ := List.mem_filter.1 hy
        refine List.mem_filter.2 ⟨hc _ _ hx1 hy1, ?_⟩
        simp at hx2 hy2
        rw [Nat.testBit_xor, hx2, hy2]; rfl) (by omega)
      (fun x hx hx0 => by
        obtain ⟨hx1, hx2⟩ := List.mem_filter.1 hx
        simp at hx2
        have hxc : x ^^^ c ≠ 0 := fun e => by
          have := xor_eq_zero e
          subst this
          rw [hx2] at hp
          exact absurd hp (by decide)
        have e1 := hmin x hx1 hx0
        have e2 := hmin (x ^^^ c) (hc _ _ hx1 hcC) hxc
        have e3 := pop_pair 16 M c x
        omega) (by
        have := hw c hcC hc0
        omega)
    have e1 := hw c hcC hc0
    have e2 := pop_split 16 M c
    have e3 : gsum k ((d + 1) / 2) ≤ gsum k ((pop 16 (c &&& M) + 1) / 2) := gsum_mono k (by omega)
    rw [gsum]
    omega

/-! ### the words that rows span, in the order in which they are made -/
def grow : List Nat → List Nat → List Nat
  | ws, [] => ws
  | ws, r :: rs => grow (ws ++ ws.map (· ^^^ r)) rs
theorem grow_len : ∀ (rs ws : List Nat), (grow ws rs).length = ws.length * 2 ^ rs.length
  | [], ws => by simp [grow]
  | r :: rs, ws => by
    rw [grow, grow_len rs, List.length_append, List.length_map, List.length_cons, Nat.pow_succ]
    rw [← Nat.two_mul, Nat.mul_comm 2, Nat.mul_assoc, Nat.mul_comm 2]
theorem grow_prefix : ∀ (rs ws : List Nat), ∃ t, grow ws rs = ws ++ t
  | [], ws => ⟨[], by simp [grow]⟩
  | r :: rs, ws => by
    obtain ⟨t, ht⟩ := grow_prefix rs (ws ++ ws.map (· ^^^ r))
    exact ⟨ws.map (· ^^^ r) ++ t, by rw [grow, ht, List.append_assoc]⟩
theorem grow_lt : ∀ (rs ws : List Nat) (n : Nat), (∀ x ∈ ws, x < 2 ^ n) → (∀ x ∈ rs, x < 2 ^ n) → ∀ x ∈ grow ws rs, x < 2 ^ n
  | [], ws, n, h, _ => h
  | r :: rs, ws, n, h, hr => by
    refine grow_lt rs _ n (fun x hx => ?_) (fun x hx => hr x (List.mem_cons_of_mem _ hx))
    rcases List.mem_append.1 hx with hx | hx
    · exact h x hx
    · obtain ⟨y, hy, rfl⟩ := List.mem_map.1 hx
      exact Nat.xor_lt_two_pow (h y hy) (hr r (List.mem_cons_self ..))
theorem grow_closed : ∀ (rs ws : List Nat), (∀ x y, x ∈ ws → y ∈ ws → x ^^^ y ∈ ws) → ∀ x y, x ∈ grow ws rs → y ∈ grow ws rs → x ^^^ y ∈ grow ws rs
  | [], ws, h => h
  | r :: rs, ws, h => by
    refine grow_closed rs _ (fun x y hx hy => ?_)
    rcases List.mem_append.1 hx with hx | hx <;> rcases List.mem_append.1 hy with hy | hy
    · exact List.mem_append_left _ (h _ _ hx hy)
    · obtain ⟨y, hy2, rfl⟩ := List.mem_map.1 hy
      exact List.mem_append_right _ (List.mem_map.2 ⟨x ^^^ y, h _ _ hx hy2, by rw [Nat.xor_assoc]⟩)
    · obtain ⟨x, hx2, rfl⟩ := List.mem_map.1 hx
      exact List.mem_append_right _ (List.mem_map.2 ⟨x ^^^ y, h _ _ hx2 hy, by rw [Nat.xor_assoc, Nat.xor_assoc, Nat.xor_comm y r]⟩)
    · obtain ⟨x, hx2, rfl⟩ := List.mem_map.1 hx
      obtain ⟨y, hy2, rfl⟩ := List.mem_map.1 hy
      refine List.mem_append_left _ ?_
      have : x ^^^ r ^^^ (y ^^^ r) = x ^^^ y := by rw [Nat.xor_assoc, Nat.xor_comm y r, ← Nat.xor_assoc r r, Nat.xor_self, Nat.zero_xor]
      rw [this]
      exact h _ _ hx2 hy2
theorem grow_nodup : ∀ (rs ws : List Nat), ws ≠ [] → ws.Nodup → (∀ x y, x ∈ ws → y ∈ ws → x ^^^ y ∈ ws) → (∀ x ∈ (grow ws rs).tail, x ≠ 0) → (grow ws rs).Nodup
  | [], ws, _, h, _, _ => h
  | r :: rs, ws, hne, h, hc, h0 => by
    rw [grow]
    refine grow_nodup rs _ (by simp [hne]) ?_ ?_ h0
    · refine List.pairwise_append.2 ⟨h, nodup_map_xor r h, fun a ha b hb e => ?_⟩
      subst e
      obtain ⟨x, hx, e⟩ := List.mem_map.1 hb
      have hr : r ∈ ws := by
        have := hc _ _ hx ha
        rw [← e, ← Nat.xor_assoc, Nat.xor_self, Nat.zero_xor] at this
        exact this
      obtain ⟨t, ht⟩ := grow_prefix rs (ws ++ ws.map (· ^^^ r))
      refine h0 0 ?_ rfl
      rw [grow, ht]
      cases ws with
      | nil => exact absurd rfl hne
      | cons a l =>
        rw [List.cons_append, List.cons_append, List.tail_cons]
        refine List.mem_append_left _ (List.mem_append_right _ (List.mem_map.2 ⟨r, hr, Nat.xor_self r⟩))
    · exact grow_closed [r] ws hc
def mins : List Nat → Nat
  | [] => 0
  | a :: t => t.foldl (fun m x => if pop 16 x < m then pop 16 x else m) (pop 16 a)
def lw (ws : List Nat) : Nat := mins ws.tail
theorem foldl_le : ∀ (t : List Nat) (m : Nat), t.foldl (fun m x => if pop 16 x < m then pop 16 x else m) m ≤ m ∧ ∀ x ∈ t, t.foldl (fun m x => if pop 16 x < m then pop 16 x else m) m ≤ pop 16 x
  | [], m => ⟨Nat.le_refl _, by simp⟩
  | a :: t, m => by
    obtain ⟨h1, h2⟩ := foldl_le t (if pop 16 a < m then pop 16 a else m)
    rw [List.foldl_cons]
    have : (if pop 16 a < m then pop 16 a else m) ≤ m ∧ (if pop 16 a < m then pop 16 a else m) ≤ pop 16 a := by split <;> omega
    refine ⟨Nat.le_trans h1 this.1, fun x hx => ?_⟩
    rcases List.mem_cons.1 hx with rfl | hx
    · exact Nat.le_trans h1 this.2
    · exact h2 x hx
theorem lw_le {ws : List Nat} {x : Nat} (h : x ∈ ws.tail) : lw ws ≤ pop 16 x := by
  unfold lw
  cases ht : ws.tail with
  | nil => rw [ht] at h; exact absurd h (by simp)
  | cons a t =>
    rw [ht] at h
    rcases List.mem_cons.1 h with rfl | h
    · exact (foldl_le t _).1
    · exact (foldl_le t _).2 x h
theorem lw_snoc (a : Nat) (t : List Nat) (w : Nat) : lw (a :: t ++ [w]) = if (a :: t).length = 1 then pop 16 w else if pop 16 w < lw (a :: t) then pop 16 w else lw (a :: t) := by
  unfold lw
  cases t with
  | nil => simp [mins]
  | cons b t =>
    rw [if_neg (by simp)]
    show mins (b :: (t ++ [w])) = _
    simp only [mins, List.foldl_append, List.foldl_cons, List.foldl_nil, List.tail_cons]
    first | rfl | congr
theorem lw_le16 (ws : List Nat) : lw ws ≤ 16 := by
  cases ht : ws.tail with
  | nil => unfold lw; rw [ht]; exact Nat.zero_le _
  | cons a t => exact Nat.le_trans (lw_le (x := a) (by rw [ht]; exact List.mem_cons_self ..)) (pop_le 16 a)
/-- What the words of independent rows are. -/
theorem span_code {n : Nat} {rows : List Nat} (hn : n ≤ 16) (hr : ∀ x ∈ rows, x < 2 ^ n) (h : 0 < lw (grow [0] rows)) :
    WCode n (lw (grow [0] rows)) (grow [0] rows) ∧ gsum rows.length (lw (grow [0] rows)) ≤ n ∧ lw (grow [0] rows) ≤ n ∧ (grow [0] rows).length = 2 ^ rows.length := by
  have hlt := grow_lt rows [0] n (fun x hx => by rw [List.mem_singleton.1 hx]; exact Nat.pow_pos (by decide)) hr
  have hcl := grow_closed rows [0] (fun x y hx hy => by rw [List.mem_singleton.1 hx, List.mem_singleton.1 hy]; simp)
  obtain ⟨t, ht⟩ := grow_prefix rows [0]
  have htl : ∀ x ∈ (grow [0] rows).tail, lw (grow [0] rows) ≤ pop 16 x := fun x hx => lw_le hx
  have hne : ∀ x ∈ (grow [0] rows).tail, x ≠ 0 := fun x hx e => by
    have := htl x hx
    subst e
    rw [pop_zero] at this
    omega
  have hnd := grow_nodup rows [0] (by simp) (by simp) (fun x y hx hy => by rw [List.mem_singleton.1 hx, List.mem_singleton.1 hy]; simp) hne
  have hlen : (grow [0] rows).length = 2 ^ rows.length := by rw [grow_len]; simp
  have hw : ∀ x ∈ grow [0] rows, x ≠ 0 → lw (grow [0] rows) ≤ pop 16 x := fun x hx h0 => by
    refine htl x ?_
    rw [ht] at hx ⊢
    rcases List.mem_cons.1 hx with h | h
    · exact absurd h h0
    · exact h
  have hM : ∀ x, x < 2 ^ n → x &&& (2 ^ n - 1) = x := fun x hx => by rw [Nat.and_two_pow_sub_one_eq_mod, Nat.mod_eq_of_lt hx]
  have hg := griesmer_bound rows.length (lw (grow [0] rows)) (2 ^ n - 1) (grow [0] rows) hnd hcl hlen (fun x hx h0 => by rw [hM x (hlt x hx)]; exact hw x hx h0) h
  have hpn : pop 16 (2 ^ n - 1) ≤ n := by
    rw [pop_more (n := n) (by have := Nat.pow_pos (n := n) (show 0 < 2 by decide); omega) hn]
    exact pop_le n _
  refine ⟨⟨hlt, ?_⟩, Nat.le_trans hg hpn, ?_, hlen⟩
  · refine List.Pairwise.imp_of_mem (fun {a b} ha hb hab => ?_) hnd
    have h1 := hw _ (hcl _ _ ha hb) (fun e => hab (xor_eq_zero e))
    rw [pop_more (Nat.xor_lt_two_pow (hlt a ha) (hlt b hb)) hn] at h1
    exact h1
  · cases hr2 : rows with
    | nil => rw [hr2] at h; exact absurd h (by decide)
    | cons r rs =>
      rw [← hr2]
      have h2 : 1 < (grow [0] rows).length := by
        rw [hlen, hr2, List.length_cons, Nat.pow_succ]
        have := Nat.pow_pos (n := rs.length) (show 0 < 2 by decide)
        omega
      have hm : (grow [0] rows)[1] ∈ (grow [0] rows).tail := by
        have : (grow [0] rows).tail = (grow [0] rows).drop 1 := by simp
        rw [this]
        exact List.mem_drop_iff_getElem.2 ⟨0, by omega, rfl⟩
      have h3 := htl _ hm
      rw [pop_more (hlt _ (List.getElem_mem h2)) hn] at h3
      exact Nat.le_trans h3 (pop_le n _)
end Go.Proofs.YtcanekmlabehgaaQ
