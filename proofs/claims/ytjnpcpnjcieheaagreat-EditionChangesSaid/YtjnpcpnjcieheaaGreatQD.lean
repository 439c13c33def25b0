/- Digests of numbers; turned from Private and Seal. -/
import Derived.Test.YtjnpcpnjcieheaaGreatX48N
import Derived.Test.YtjnpcpnjcieheaaGreatQM
import Derived.Test.YtjnpcpnjcieheaaGreatQSeal
import Derived.Test.YtjnpcpnjcieheaaGreatQV
namespace Go.Proofs.YtjnpcpnjcieheaaGreatQ
set_option linter.unusedVariables false
set_option linter.unusedSimpArgs false
open Go Go.RowKit Go.Proofs.YtjnpcpnjcieheaaGreat.P47 Go.Proofs.YtjnpcpnjcieheaaGreat.V48 Go.Proofs.YtjnpcpnjcieheaaGreatW.PrintWords Go.Proofs.YtjnpcpnjcieheaaGreatW.PrintLast Go.Proofs.YtjnpcpnjcieheaaGreatW.PrintMore
theorem getD_get {l : List Int} {i : Nat} (h : i < l.length) : List.getD l (Int.toNat (i : Int)) (Int.ofNat 0) = l[i] := by
  rw [Int.toNat_natCast, List.getD_eq_getElem?_getD, List.getElem?_eq_getElem h]; rfl
/-- The digest of numbers. -/
def wd (l : List Int) : Int := seal_stepv ((l.map (IntKind.u64.wrap ·)).foldl seal_stepv 123610861172083) (IntKind.u64.wrap (l.length : Int))
theorem wrap_U (x : Int) : U (IntKind.u64.wrap x) := by
  rw [show IntKind.u64.wrap x = x % 18446744073709551616 from rfl]; unfold U; omega
theorem stepv_eq {a b : Int} (ha : U a) (hb : U b) : seal_stepv a b = ((stepN a.toNat b.toNat : Nat) : Int) := by
  obtain ⟨A, rfl, hA⟩ := ha.nat
  obtain ⟨B, rfl, hB⟩ := hb.nat
  unfold seal_stepv
  rw [dstep_f hA hB]; rfl
theorem stepv_U {a b : Int} (ha : U a) (hb : U b) : U (seal_stepv a b) := by rw [stepv_eq ha hb]; exact U.of (stepN_lt _ _)
theorem stepv_right {a b c : Int} (ha : U a) (hb : U b) (hc : U c) : seal_stepv a b = seal_stepv a c ↔ b = c := by
  rw [stepv_eq ha hb, stepv_eq ha hc]
  obtain ⟨A, rfl, hA⟩ := ha.nat
  obtain ⟨B, rfl, hB⟩ := hb.nat
  obtain ⟨C, rfl, hC⟩ := hc.nat
  simp only [Int.toNat_natCast, Int.ofNat_inj]
  exact stepN_inj hA hB hC
theorem stepv_left {a b c : Int} (ha : U a) (hb : U b) (hc : U c) : seal_stepv b a = seal_stepv c a ↔ b = c := by
  rw [stepv_eq hb ha, stepv_eq hc ha]
  obtain ⟨A, rfl, hA⟩ := ha.nat
  obtain ⟨B, rfl, hB⟩ := hb.nat
  obtain ⟨C, rfl, hC⟩ := hc.nat
  simp only [Int.toNat_natCast, Int.ofNat_inj]
  rw [stepN_comm B A, stepN_comm C A]
  exact stepN_inj hA hB hC
theorem U_start : U 123610861172083 := ⟨by decide, by decide⟩
theorem fold_stepv_U : ∀ (l : List Int) (a : Int), U a → (∀ x ∈ l, U x) → U (l.foldl seal_stepv a)
  | [], _, h, _ => h
  | x :: l, a, h, hl => fold_stepv_U l _ (stepv_U h (hl x (List.mem_cons_self ..))) fun y hy => hl y (List.mem_cons_of_mem _ hy)
theorem wd_U (l : List Int) : U (wd l) := stepv_U (fold_stepv_U _ _ U_start fun x hx => by
  obtain ⟨y, _, rfl⟩ := List.mem_map.1 hx
  exact wrap_U y) (wrap_U _)
/-- Lists of one length that differ in one number have different digests. -/
theorem wd_2 {a b c d : Int} (h : a = c ∨ b = d) : wd [a, b] = wd [c, d] ↔ IntKind.u64.wrap a = IntKind.u64.wrap c ∧ IntKind.u64.wrap b = IntKind.u64.wrap d := by
  unfold wd
  simp only [List.map_cons, List.map_nil, List.foldl_cons, List.foldl_nil, List.length_cons, List.length_nil]
  have ua := stepv_U U_start (wrap_U a)
  have uc := stepv_U U_start (wrap_U c)
  rw [stepv_left (wrap_U _) (stepv_U ua (wrap_U _)) (stepv_U uc (wrap_U _))]
  rcases h with rfl | rfl
  · rw [stepv_right ua (wrap_U _) (wrap_U _)]; simp
  · rw [stepv_left (wrap_U _) ua uc, stepv_right U_start (wrap_U _) (wrap_U _)]; simp
/-- Three numbers, of which two are the same. -/
theorem wd_3 {a b c d e f : Int} (h : (b = e ∧ c = f) ∨ (a = d ∧ c = f) ∨ (a = d ∧ b = e)) : wd [a, b, c] = wd [d, e, f] ↔ IntKind.u64.wrap a = IntKind.u64.wrap d ∧ IntKind.u64.wrap b = IntKind.u64.wrap e ∧ IntKind.u64.wrap c = IntKind.u64.wrap f := by
  unfold wd
  simp only [List.map_cons, List.map_nil, List.foldl_cons, List.foldl_nil, List.length_cons, List.length_nil]
  have ua := stepv_U U_start (wrap_U a)
  have ud := stepv_U U_start (wrap_U d)
  have ub := stepv_U ua (wrap_U b)
  have ue := stepv_U ud (wrap_U e)
  rw [stepv_left (wrap_U _) (stepv_U ub (wrap_U _)) (stepv_U ue (wrap_U _))]
  rcases h with ⟨rfl, rfl⟩ | ⟨rfl, rfl⟩ | ⟨rfl, rfl⟩
  · rw [stepv_left (wrap_U _) ub ue, stepv_left (wrap_U _) ua ud, stepv_right U_start (wrap_U _) (wrap_U _)]; simp
  · rw [stepv_left (wrap_U _) ub ue, stepv_right ua (wrap_U _) (wrap_U _)]; simp
  · rw [stepv_right ub (wrap_U _) (wrap_U _)]; simp
/-- Numbers of 64 bits with a sign. -/
def S (x : Int) : Prop := -9223372036854775808 ≤ x ∧ x < 9223372036854775808
theorem S_wrap (x : Int) : S (wrap64 x) := by unfold S wrap64; omega
theorem S_inj {x y : Int} (hx : S x) (hy : S y) : IntKind.u64.wrap x = IntKind.u64.wrap y ↔ x = y := by
  rw [show IntKind.u64.wrap x = x % 18446744073709551616 from rfl, show IntKind.u64.wrap y = y % 18446744073709551616 from rfl]
  unfold S at hx hy; omega
theorem U_inj {x y : Int} (hx : U x) (hy : U y) : wrap64 x = wrap64 y ↔ x = y := by unfold wrap64; unfold U at hx hy; omega
theorem wrap_w64 {x : Int} (hx : U x) : IntKind.u64.wrap (wrap64 x) = x := by
  rw [show IntKind.u64.wrap (wrap64 x) = wrap64 x % 18446744073709551616 from rfl]; unfold wrap64; unfold U at hx; omega
theorem fold_inj : ∀ (ws : List Int) (a b : Int), U a → U b → (∀ x ∈ ws, U x) → (ws.foldl seal_stepv a = ws.foldl seal_stepv b ↔ a = b)
  | [], a, b, _, _, _ => Iff.rfl
  | w :: ws, a, b, ha, hb, h => by
    have hw := h w (List.mem_cons_self ..)
    rw [List.foldl_cons, List.foldl_cons, fold_inj ws _ _ (stepv_U ha hw) (stepv_U hb hw) fun x hx => h x (List.mem_cons_of_mem _ hx)]
    exact stepv_left hw ha hb
theorem fold_set1 : ∀ (ws : List Int) (j : Nat) (v d : Int), j < ws.length → U d → (∀ x ∈ ws, U x) → U v → ((ws.set j v).foldl seal_stepv d = ws.foldl seal_stepv d ↔ v = ws.getD j 0)
  | [], j, v, d, hj, _, _, _ => absurd hj (by simp)
  | w :: ws, 0, v, d, hj, hd, h, hv => by
    have hw := h w (List.mem_cons_self ..)
    show (ws.foldl seal_stepv (seal_stepv d v) = ws.foldl seal_stepv (seal_stepv d w)) ↔ v = w
    rw [fold_inj ws _ _ (stepv_U hd hv) (stepv_U hd hw) fun x hx => h x (List.mem_cons_of_mem _ hx)]
    exact stepv_right hd hv hw
  | w :: ws, j + 1, v, d, hj, hd, h, hv => by
    have hw := h w (List.mem_cons_self ..)
    exact fold_set1 ws j v (seal_stepv d w) (by simpa using hj) (stepv_U hd hw) (fun x hx => h x (List.mem_cons_of_mem _ hx)) hv
theorem map_U (l : List Int) : ∀ y ∈ l.map (IntKind.u64.wrap ·), U y := fun y hy => by
  obtain ⟨z, _, rfl⟩ := List.mem_map.1 hy
  exact wrap_U z
theorem wd_set {l : List Int} {i : Nat} (hi : i < l.length) {x : Int} (hx : S x) (hl : ∀ y ∈ l, S y) : wd (l.set i x) = wd l ↔ x = l.getD i 0 := by
  have hg : S (l.getD i 0) := by rw [List.getD_eq_getElem?_getD, List.getElem?_eq_getElem hi]; exact hl _ (List.getElem_mem hi)
  have e : (l.set i x).map (IntKind.u64.wrap ·) = (l.map (IntKind.u64.wrap ·)).set i (IntKind.u64.wrap x) := List.map_set
  have eg : (l.map (IntKind.u64.wrap ·)).getD i 0 = IntKind.u64.wrap (l.getD i 0) := by
    rw [List.getD_eq_getElem?_getD, List.getD_eq_getElem?_getD, List.getElem?_map, List.getElem?_eq_getElem hi]; rfl
  unfold wd
  rw [List.length_set, stepv_left (wrap_U _) (fold_stepv_U _ _ U_start (map_U _)) (fold_stepv_U _ _ U_start (map_U _)), e, fold_set1 _ i _ _ (by simpa using hi) U_start (map_U _) (wrap_U _), eg, S_inj hx hg]
theorem dstepm (k : Nat) {h w : Nat} (hh : h < 2 ^ 64) (hw : w < 2 ^ 64) : seal_digest_step.m k (h : Int) (w : Int) = some ((stepN h w : Nat) : Int) := by
  rw [seal_digest_step.m_eq]
  have ht : (h ^^^ w) * 11400714819323198485 % 2 ^ 64 < 2 ^ 64 := Nat.mod_lt _ (by decide)
  have e1 : IntKind.wrap IntKind.u64 (IntKind.wrap IntKind.u64 (↑(BitVec.toNat (BitVec.ofInt (IntKind.bits IntKind.u64) (h : Int) ^^^ BitVec.ofInt (IntKind.bits IntKind.u64) (w : Int))) : Int) * 11400714819323198485) = (((h ^^^ w) * 11400714819323198485 % 2 ^ 64 : Nat) : Int) := by
    show IntKind.u64.wrap (Go.bits .xor .u64 (h : Int) (w : Int) * 11400714819323198485) = _
    rw [xor64 hh hw, show ((11400714819323198485 : Int)) = ((11400714819323198485 : Nat) : Int) from rfl, mul64]
  rw [e1]
  have key : ∀ t : Nat, t < 2 ^ 64 → (some (IntKind.wrap IntKind.u64 (IntKind.wrap IntKind.u64 (↑(BitVec.toNat (BitVec.ofInt (IntKind.bits IntKind.u64) (t : Int) ^^^ BitVec.ofInt (IntKind.bits IntKind.u64) (Go.Vx.shF BinOp.shr IntKind.u64 (t : Int) 29))) : Int) * 13787848793156543929)) : Option Int) = some ((s29 t * 13787848793156543929 % 2 ^ 64 : Nat) : Int) := by
    intro t ht
    have e2 : Go.Vx.shF BinOp.shr IntKind.u64 (t : Int) 29 = ((t >>> 29 : Nat) : Int) := by
      show Int.fdiv (t : Int) (2 ^ min (29 : Int).toNat IntKind.u64.bits) = _
      rw [show min (29 : Int).toNat IntKind.u64.bits = 29 from rfl, Int.fdiv_eq_ediv_of_nonneg _ (by decide), Nat.shiftRight_eq_div_pow]
      omega
    rw [e2]
    show some (IntKind.u64.wrap (Go.bits .xor .u64 (t : Int) ((t >>> 29 : Nat) : Int) * 13787848793156543929)) = _
    rw [xor64 ht (sr_lt ht 29), show ((13787848793156543929 : Int)) = ((13787848793156543929 : Nat) : Int) from rfl, mul64]
    rfl
  exact key _ ht
theorem sstep_m (k : Nat) {a b : Int} (ha : U a) (hb : U b) : seal_digest_step.m k a b = some (YtjnpcpnjcieheaaGreat.P47.seal_stepv a b) := by
  rw [stepv_eq ha hb]
  obtain ⟨A, rfl, hA⟩ := ha.nat
  obtain ⟨B, rfl, hB⟩ := hb.nat
  exact dstepm k hA hB
theorem sjoin_m (k : Nat) {a b : Int} (ha : U a) (hb : U b) : seal_Join.m k a b = some (jn a b) := by
  obtain ⟨A, rfl, hA⟩ := ha.nat
  obtain ⟨B, rfl, hB⟩ := hb.nat
  rw [seal_Join.m_eq]
  unfold jn
  rw [show (1785686382 : Int) = ((1785686382 : Nat) : Int) from rfl, dstepm k (by decide) hA]
  simp only [Option.bind_some, Int.toNat_natCast]
  rw [dstepm k (stepN_lt _ _) hB]; rfl
theorem root0 : Ev (fun k => seal_Root.f k []) (wd []) := by
  refine Ev.step (fun k => by rw [seal_Root.f]) ?_
  exact evT rfl (Ev.bind (a := wd []) (Ev.now _) (Ev.now _))
end Go.Proofs.YtjnpcpnjcieheaaGreatQ
