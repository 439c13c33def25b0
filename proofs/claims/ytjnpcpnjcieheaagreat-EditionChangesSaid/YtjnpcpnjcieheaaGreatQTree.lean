/- Trees of digests: roots, paths, sides, and what one change does. -/
import Derived.Test.YtjnpcpnjcieheaaGreatQStep
namespace Go.Proofs.YtjnpcpnjcieheaaGreatQ
set_option linter.unusedVariables false
set_option linter.unusedSimpArgs false
def U (x : Int) : Prop := 0 ≤ x ∧ x < 18446744073709551616
theorem U.nat {x : Int} (h : U x) : ∃ n : Nat, x = n ∧ n < 2 ^ 64 := ⟨x.toNat, by have := h.1; omega, by have := h.1; have := h.2; omega⟩
theorem U.of {n : Nat} (h : n < 2 ^ 64) : U (n : Int) := ⟨by omega, by omega⟩
def jn (a b : Int) : Int := ((stepN (stepN 1785686382 a.toNat) b.toNat : Nat) : Int)
theorem jn_U (a b : Int) : U (jn a b) := U.of (stepN_lt _ _)
theorem jn_left {a c b : Int} (ha : U a) (hc : U c) (hb : U b) : jn a b = jn c b ↔ a = c := by
  obtain ⟨A, rfl, hA⟩ := ha.nat
  obtain ⟨B, rfl, hB⟩ := hb.nat
  obtain ⟨C, rfl, hC⟩ := hc.nat
  refine ⟨fun h => ?_, fun h => by rw [h]⟩
  unfold jn at h
  simp only [Int.toNat_natCast] at h
  have h1 : stepN (stepN 1785686382 A) B = stepN (stepN 1785686382 C) B := by omega
  rw [stepN_comm _ B, stepN_comm _ B] at h1
  have h2 := (stepN_inj hB (stepN_lt _ _) (stepN_lt _ _)).1 h1
  have h3 := (stepN_inj (by decide) hA hC).1 h2
  rw [h3]
theorem jn_right {a b c : Int} (ha : U a) (hb : U b) (hc : U c) : jn a b = jn a c ↔ b = c := by
  obtain ⟨A, rfl, hA⟩ := ha.nat
  obtain ⟨B, rfl, hB⟩ := hb.nat
  obtain ⟨C, rfl, hC⟩ := hc.nat
  refine ⟨fun h => ?_, fun h => by rw [h]⟩
  unfold jn at h
  simp only [Int.toNat_natCast] at h
  have h1 : stepN (stepN 1785686382 A) B = stepN (stepN 1785686382 A) C := by omega
  rw [(stepN_inj (stepN_lt _ _) hB hC).1 h1]
def up (h o : Int) (s : Bool) : Int := if s then jn h o else jn o h
theorem up_U (h o : Int) (s : Bool) : U (up h o s) := by unfold up; split <;> exact jn_U _ _
theorem up_h {h g o : Int} (s : Bool) (hh : U h) (hg : U g) (ho : U o) : up h o s = up g o s ↔ h = g := by
  unfold up; cases s
  · exact jn_right ho hh hg
  · exact jn_left hh hg ho
theorem up_o {h o p : Int} (s : Bool) (hh : U h) (ho : U o) (hp : U p) : up h o s = up h p s ↔ o = p := by
  unfold up; cases s
  · exact jn_left ho hp hh
  · exact jn_right hh ho hp
def halfN (n : Nat) : Nat := 2 ^ (n - 1).log2
theorem halfN_pos (n : Nat) : 1 ≤ halfN n := Nat.one_le_two_pow
theorem halfN_lt {n : Nat} (h : 2 ≤ n) : halfN n < n := by
  have := Nat.log2_self_le (n := n - 1) (by omega)
  unfold halfN; omega
def root (e : Int) (l : List Int) : Int :=
  if h : l.length ≤ 1 then l.headD e else jn (root e (l.take (halfN l.length))) (root e (l.drop (halfN l.length)))
termination_by l.length
decreasing_by
  · have := halfN_lt (n := l.length) (by omega); simp; omega
  · have := halfN_pos l.length; simp; omega
def sides (n i : Nat) : List Bool :=
  if h : n ≤ 1 then [] else if i < halfN n then sides (halfN n) i ++ [true] else sides (n - halfN n) (i - halfN n) ++ [false]
termination_by n
decreasing_by
  · exact halfN_lt (by omega)
  · have := halfN_pos n; omega
def path (e : Int) (l : List Int) (i : Nat) : List Int :=
  if h : l.length ≤ 1 then [] else if i < halfN l.length then path e (l.take (halfN l.length)) i ++ [root e (l.drop (halfN l.length))] else path e (l.drop (halfN l.length)) (i - halfN l.length) ++ [root e (l.take (halfN l.length))]
termination_by l.length
decreasing_by
  · have := halfN_lt (n := l.length) (by omega); simp; omega
  · have := halfN_pos l.length; simp; omega
def fold (h : Int) : List Int → List Bool → Int
  | o :: os, s :: ss => fold (up h o s) os ss
  | _, _ => h
theorem root_U (e : Int) (he : U e) : ∀ (n : Nat) (l : List Int), l.length = n → (∀ x ∈ l, U x) → U (root e l)
  | n, l, hn, hl => by
    rw [root]; split
    · cases l with
      | nil => exact he
      | cons a t => exact hl a (by simp)
    · exact jn_U _ _
theorem path_U (e : Int) (he : U e) : ∀ (n : Nat) (l : List Int), l.length = n → (∀ x ∈ l, U x) → ∀ i, ∀ x ∈ path e l i, U x := by
  intro n
  induction n using Nat.strongRecOn with
  | ind n ih =>
    intro l hn hl i x hx
    rw [path] at hx
    split at hx
    · simp at hx
    · rename_i h1
      have h2 := halfN_lt (n := l.length) (by omega)
      have h3 := halfN_pos l.length
      split at hx
      · rcases List.mem_append.1 hx with h | h
        · exact ih (halfN l.length) (by omega) _ (by simp; omega) (fun y hy => hl y (List.mem_of_mem_take hy)) i x h
        · rw [List.mem_singleton.1 h]
          exact root_U e he _ _ rfl (fun y hy => hl y (List.mem_of_mem_drop hy))
      · rcases List.mem_append.1 hx with h | h
        · exact ih (l.length - halfN l.length) (by omega) _ (by simp) (fun y hy => hl y (List.mem_of_mem_drop hy)) _ x h
        · rw [List.mem_singleton.1 h]
          exact root_U e he _ _ rfl (fun y hy => hl y (List.mem_of_mem_take hy))
theorem path_len (e : Int) : ∀ (n : Nat) (l : List Int), l.length = n → ∀ i, (path e l i).length = (sides n i).length := by
  intro n
  induction n using Nat.strongRecOn with
  | ind n ih =>
    intro l hn i
    rw [path, sides, hn]
    split
    · rfl
    · rename_i h1
      have h2 := halfN_lt (n := n) (by omega)
      have h3 := halfN_pos n
      split
      · simp only [List.length_append, List.length_singleton]
        rw [ih (halfN n) (by omega) _ (by simp; omega)]
      · simp only [List.length_append, List.length_singleton]
        rw [ih (n - halfN n) (by omega) _ (by simp; omega)]
theorem fold_app : ∀ (os : List Int) (ss : List Bool) (h : Int) (o : Int) (s : Bool), os.length = ss.length → fold h (os ++ [o]) (ss ++ [s]) = up (fold h os ss) o s
  | [], [], h, o, s, _ => rfl
  | [], _ :: _, h, o, s, e => by simp at e
  | _ :: _, [], h, o, s, e => by simp at e
  | a :: os, b :: ss, h, o, s, e => by simpa [fold] using fold_app os ss (up h a b) o s (by simpa using e)
theorem root_big {e : Int} {l : List Int} {n : Nat} (hn : l.length = n) (h : ¬ n ≤ 1) : root e l = jn (root e (l.take (halfN n))) (root e (l.drop (halfN n))) := by subst hn; rw [root, dif_neg h]
theorem root_one {e x : Int} : root e [x] = x := by rw [root]; simp
theorem path_one {e : Int} {l : List Int} {i : Nat} (h : l.length ≤ 1) : path e l i = [] := by rw [path, dif_pos h]
theorem path_l {e : Int} {l : List Int} {n i : Nat} (hn : l.length = n) (h : ¬ n ≤ 1) (hi : i < halfN n) : path e l i = path e (l.take (halfN n)) i ++ [root e (l.drop (halfN n))] := by subst hn; rw [path, dif_neg h, if_pos hi]
theorem path_r {e : Int} {l : List Int} {n i : Nat} (hn : l.length = n) (h : ¬ n ≤ 1) (hi : ¬ i < halfN n) : path e l i = path e (l.drop (halfN n)) (i - halfN n) ++ [root e (l.take (halfN n))] := by subst hn; rw [path, dif_neg h, if_neg hi]
theorem sides_one {n i : Nat} (h : n ≤ 1) : sides n i = [] := by rw [sides, dif_pos h]
theorem sides_l {n i : Nat} (h : ¬ n ≤ 1) (hi : i < halfN n) : sides n i = sides (halfN n) i ++ [true] := by rw [sides, dif_neg h, if_pos hi]
theorem sides_r {n i : Nat} (h : ¬ n ≤ 1) (hi : ¬ i < halfN n) : sides n i = sides (n - halfN n) (i - halfN n) ++ [false] := by rw [sides, dif_neg h, if_neg hi]
theorem fold_path (e : Int) : ∀ (n : Nat) (l : List Int), l.length = n → ∀ i, i < n → fold (l.getD i 0) (path e l i) (sides n i) = root e l := by
  intro n
  induction n using Nat.strongRecOn with
  | ind n ih =>
    intro l hn i hi
    by_cases h1 : n ≤ 1
    · rw [path_one (by omega), sides_one h1]
      match l, hn with
      | [], hn => simp at hn; omega
      | [a], hn => simp at hn; obtain rfl : i = 0 := by omega
                   rw [root_one]; rfl
      | a :: b :: t, hn => simp at hn; omega
    · have h2 := halfN_lt (n := n) (by omega)
      have h3 := halfN_pos n
      rw [root_big hn h1]
      by_cases hk : i < halfN n
      · rw [path_l hn h1 hk, sides_l h1 hk, fold_app _ _ _ _ _ (path_len e (halfN n) _ (by simp; omega) i)]
        have := ih (halfN n) (by omega) (l.take (halfN n)) (by simp; omega) i hk
        rw [show (l.take (halfN n)).getD i 0 = l.getD i 0 by simp [List.getD, List.getElem?_take, hk]] at this
        rw [this]; rfl
      · rw [path_r hn h1 hk, sides_r h1 hk, fold_app _ _ _ _ _ (path_len e (n - halfN n) _ (by simp; omega) _)]
        have := ih (n - halfN n) (by omega) (l.drop (halfN n)) (by simp; omega) (i - halfN n) (by omega)
        rw [show (l.drop (halfN n)).getD (i - halfN n) 0 = l.getD i 0 by simp only [List.getD, List.getElem?_drop]; rw [show halfN n + (i - halfN n) = i by omega]] at this
        rw [this]; rfl
theorem fold_U : ∀ (os : List Int) (ss : List Bool) (h : Int), U h → U (fold h os ss)
  | [], _, h, hh => by simpa [fold] using hh
  | _ :: _, [], h, hh => by simpa [fold] using hh
  | a :: os, b :: ss, h, hh => fold_U os ss _ (up_U _ _ _)
theorem fold_h : ∀ (os : List Int) (ss : List Bool) (h g : Int), U h → U g → (∀ x ∈ os, U x) → (fold h os ss = fold g os ss ↔ h = g)
  | [], _, h, g, hh, hg, _ => by simp [fold]
  | _ :: _, [], h, g, hh, hg, _ => by simp [fold]
  | a :: os, b :: ss, h, g, hh, hg, hu => by
    have := fold_h os ss (up h a b) (up g a b) (up_U _ _ _) (up_U _ _ _) (fun x hx => hu x (by simp [hx]))
    simp only [fold]; rw [this]
    exact up_h b hh hg (hu a (by simp))
theorem fold_set : ∀ (os : List Int) (ss : List Bool) (h v : Int) (k : Nat), k < os.length → os.length = ss.length → U h → U v → (∀ x ∈ os, U x) → (fold h (os.set k v) ss = fold h os ss ↔ v = os.getD k 0)
  | [], _, h, v, k, hk, _, _, _, _ => by simp at hk
  | _ :: _, [], h, v, k, hk, e, _, _, _ => by simp at e
  | a :: os, b :: ss, h, v, 0, hk, e, hh, hv, hu => by
    simp only [List.set_cons_zero, fold, List.getD_cons_zero]
    rw [fold_h os ss _ _ (up_U _ _ _) (up_U _ _ _) (fun x hx => hu x (by simp [hx]))]
    exact up_o b hh hv (hu a (by simp))
  | a :: os, b :: ss, h, v, k + 1, hk, e, hh, hv, hu => by
    simp only [List.set_cons_succ, fold, List.getD_cons_succ]
    exact fold_set os ss _ v k (by simpa using hk) (by simpa using e) (up_U _ _ _) hv (fun x hx => hu x (by simp [hx]))
theorem path_set (e : Int) (v : Int) : ∀ (n : Nat) (l : List Int), l.length = n → ∀ i, path e (l.set i v) i = path e l i := by
  intro n
  induction n using Nat.strongRecOn with
  | ind n ih =>
    intro l hn i
    by_cases h1 : n ≤ 1
    · rw [path_one (by simp; omega), path_one (by omega)]
    · have h2 := halfN_lt (n := n) (by omega)
      have h3 := halfN_pos n
      by_cases hk : i < halfN n
      · rw [path_l (l := l.set i v) (by simpa using hn) h1 hk, path_l hn h1 hk, List.drop_set_of_lt hk, List.take_set, ih (halfN n) (by omega) _ (by simp; omega)]
      · rw [path_r (l := l.set i v) (by simpa using hn) h1 hk, path_r hn h1 hk, List.take_set_of_le (by omega), List.drop_set, if_neg hk, ih (n - halfN n) (by omega) _ (by simp; omega)]
theorem set_U {l : List Int} {v : Int} (hl : ∀ x ∈ l, U x) (hv : U v) (i : Nat) : ∀ x ∈ l.set i v, U x := fun x hx => by
  rcases List.mem_or_eq_of_mem_set hx with h | h
  · exact hl x h
  · rw [h]; exact hv
theorem root_set (e : Int) (v : Int) (l : List Int) (i : Nat) (hi : i < l.length) (he : U e) (hl : ∀ x ∈ l, U x) (hv : U v) : (root e l = root e (l.set i v) ↔ v = l.getD i 0) ∧ fold v (path e l i) (sides l.length i) = root e (l.set i v) := by
  have h1 := fold_path e l.length l rfl i hi
  have h2 := fold_path e l.length (l.set i v) (by simp) i hi
  rw [path_set e v _ l rfl, show (l.set i v).getD i 0 = v by simp [List.getD, hi]] at h2
  refine ⟨?_, h2⟩
  rw [← h1, ← h2, fold_h _ _ _ _ (by rw [show l.getD i 0 = l[i] by simp [List.getD, hi]]; exact hl _ (List.getElem_mem _)) hv (path_U e he _ l rfl hl i)]
  exact eq_comm
end Go.Proofs.YtjnpcpnjcieheaaGreatQ
