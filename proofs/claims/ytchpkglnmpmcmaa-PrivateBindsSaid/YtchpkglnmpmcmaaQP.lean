/- What the functions of private compute: leaves, commitments, openings. -/
import Derived.Test.YtchpkglnmpmcmaaX47
import Derived.Test.YtchpkglnmpmcmaaQSeal
import Derived.Test.YtchpkglnmpmcmaaQV
namespace Go.Proofs.YtchpkglnmpmcmaaQ
set_option linter.unusedVariables false
set_option linter.unusedSimpArgs false
open Go Go.RowKit Go.Proofs.Ytchpkglnmpmcmaa.P47 Go.Proofs.Ytchpkglnmpmcmaa.V47 Go.Proofs.YtchpkglnmpmcmaaW.PrintWords Go.Proofs.YtchpkglnmpmcmaaW.PrintLast Go.Proofs.YtchpkglnmpmcmaaW.PrintMore
abbrev OT : Type := Int × Int × Int × Int × List Int
/-- The digest of numbers. -/
def wd (l : List Int) : Int := seal_stepv ((l.map (IntKind.u64.wrap ·)).foldl seal_stepv 123610861172083) (IntKind.u64.wrap (l.length : Int))
theorem wrap_U (x : Int) : U (IntKind.u64.wrap x) := by
  rw [show IntKind.u64.wrap x = x % 18446744073709551616 from rfl]; unfold U; omega
theorem stepv_eq {a b : Int} (ha : U a) (hb : U b) : seal_stepv a b = ((stepN a.toNat b.toNat : Nat) : Int) := by
  obtain ⟨A, rfl, hA⟩ := ha.nat
  obtain ⟨B, rfl, hB⟩ := hb.nat
  unfold seal_stepv
  rw [dstep_f hA hB]; rfl
theorem stepv_U {a b : Int} (ha : U a) (hb : U b) : U (seal_stepv a b) := by rw [stepv_eq ha hb]; exact U.of (stepN_lt _ _)
theorem stepv_right {a b c : Int} (ha : U a) (hb : U b) (hc : U c) : seal_stepv a b = seal_stepv a c ↔ b = c := by
  rw [stepv_eq ha hb, stepv_eq ha hc]
  obtain ⟨A, rfl, hA⟩ := ha.nat
  obtain ⟨B, rfl, hB⟩ := hb.nat
  obtain ⟨C, rfl, hC⟩ := hc.nat
  simp only [Int.toNat_natCast, Int.ofNat_inj]
  exact stepN_inj hA hB hC
theorem stepv_left {a b c : Int} (ha : U a) (hb : U b) (hc : U c) : seal_stepv b a = seal_stepv c a ↔ b = c := by
  rw [stepv_eq hb ha, stepv_eq hc ha]
  obtain ⟨A, rfl, hA⟩ := ha.nat
  obtain ⟨B, rfl, hB⟩ := hb.nat
  obtain ⟨C, rfl, hC⟩ := hc.nat
  simp only [Int.toNat_natCast, Int.ofNat_inj]
  rw [stepN_comm B A, stepN_comm C A]
  exact stepN_inj hA hB hC
theorem U_start : U 123610861172083 := ⟨by decide, by decide⟩
theorem fold_stepv_U : ∀ (l : List Int) (a : Int), U a → (∀ x ∈ l, U x) → U (l.foldl seal_stepv a)
  | [], _, h, _ => h
  | x :: l, a, h, hl => fold_stepv_U l _ (stepv_U h (hl x (List.mem_cons_self ..))) fun y hy => hl y (List.mem_cons_of_mem _ hy)
theorem wd_U (l : List Int) : U (wd l) := stepv_U (fold_stepv_U _ _ U_start fun x hx => by
  obtain ⟨y, _, rfl⟩ := List.mem_map.1 hx
  exact wrap_U y) (wrap_U _)
/-- Lists of one length that differ in one number have different digests. -/
theorem wd_2 {a b c d : Int} (h : a = c ∨ b = d) : wd [a, b] = wd [c, d] ↔ IntKind.u64.wrap a = IntKind.u64.wrap c ∧ IntKind.u64.wrap b = IntKind.u64.wrap d := by
  unfold wd
  simp only [List.map_cons, List.map_nil, List.foldl_cons, List.foldl_nil, List.length_cons, List.length_nil]
  have ua := stepv_U U_start (wrap_U a)
  have uc := stepv_U U_start (wrap_U c)
  rw [stepv_left (wrap_U _) (stepv_U ua (wrap_U _)) (stepv_U uc (wrap_U _))]
  rcases h with rfl | rfl
  · rw [stepv_right ua (wrap_U _) (wrap_U _)]; simp
  · rw [stepv_left (wrap_U _) ua uc, stepv_right U_start (wrap_U _) (wrap_U _)]; simp
/-- Three numbers, of which two are the same. -/
theorem wd_3 {a b c d e f : Int} (h : (b = e ∧ c = f) ∨ (a = d ∧ c = f) ∨ (a = d ∧ b = e)) : wd [a, b, c] = wd [d, e, f] ↔ IntKind.u64.wrap a = IntKind.u64.wrap d ∧ IntKind.u64.wrap b = IntKind.u64.wrap e ∧ IntKind.u64.wrap c = IntKind.u64.wrap f := by
  unfold wd
  simp only [List.map_cons, List.map_nil, List.foldl_cons, List.foldl_nil, List.length_cons, List.length_nil]
  have ua := stepv_U U_start (wrap_U a)
  have ud := stepv_U U_start (wrap_U d)
  have ub := stepv_U ua (wrap_U b)
  have ue := stepv_U ud (wrap_U e)
  rw [stepv_left (wrap_U _) (stepv_U ub (wrap_U _)) (stepv_U ue (wrap_U _))]
  rcases h with ⟨rfl, rfl⟩ | ⟨rfl, rfl⟩ | ⟨rfl, rfl⟩
  · rw [stepv_left (wrap_U _) ub ue, stepv_left (wrap_U _) ua ud, stepv_right U_start (wrap_U _) (wrap_U _)]; simp
  · rw [stepv_left (wrap_U _) ub ue, stepv_right ua (wrap_U _) (wrap_U _)]; simp
  · rw [stepv_right ub (wrap_U _) (wrap_U _)]; simp
/-- Numbers of 64 bits with a sign. -/
def S (x : Int) : Prop := -9223372036854775808 ≤ x ∧ x < 9223372036854775808
theorem S_wrap (x : Int) : S (wrap64 x) := by unfold S wrap64; omega
theorem S_inj {x y : Int} (hx : S x) (hy : S y) : IntKind.u64.wrap x = IntKind.u64.wrap y ↔ x = y := by
  rw [show IntKind.u64.wrap x = x % 18446744073709551616 from rfl, show IntKind.u64.wrap y = y % 18446744073709551616 from rfl]
  unfold S at hx hy; omega
theorem U_inj {x y : Int} (hx : U x) (hy : U y) : wrap64 x = wrap64 y ↔ x = y := by unfold wrap64; unfold U at hx hy; omega
theorem wrap_w64 {x : Int} (hx : U x) : IntKind.u64.wrap (wrap64 x) = x := by
  rw [show IntKind.u64.wrap (wrap64 x) = wrap64 x % 18446744073709551616 from rfl]; unfold wrap64; unfold U at hx; omega
/-- The key of a place. -/
def key (salt at_ : Int) : Int := wrap64 (wd [salt, at_])
theorem key_S (s a : Int) : S (key s a) := S_wrap _
theorem key_salt {s t : Int} (i : Int) (hs : S s) (ht : S t) : key s i = key t i ↔ s = t := by
  unfold key
  rw [U_inj (wd_U _) (wd_U _), wd_2 (.inr rfl), S_inj hs ht]; simp
/-- The leaf that an opening says. -/
def leaf (o : OT) : Int := if o.1 = 0 then wd [o.2.2.2.1, o.2.1, o.2.2.1] else wd [o.2.2.2.1, o.2.1]
theorem leaf_U (o : OT) : U (leaf o) := by unfold leaf; split <;> exact wd_U _
/-- What is at a place, without a path. -/
def plc (v : Int) (l : List Int) (s : Int) (i : Nat) : OT := if i = 0 then (0, v, (l.length : Int), key s 0, []) else ((i : Int), wrap64 (l.getD (i - 1) 0), 0, key s i, [])
def plcs (v : Int) (l : List Int) (s : Int) : List OT := (List.range (l.length + 1)).map (plc v l s)
def lvs (v : Int) (l : List Int) (s : Int) : List Int := (plcs v l s).map leaf
theorem plcs_len (v : Int) (l : List Int) (s : Int) : (plcs v l s).length = l.length + 1 := by simp [plcs]
theorem lvs_len (v : Int) (l : List Int) (s : Int) : (lvs v l s).length = l.length + 1 := by simp [lvs, plcs_len]
theorem plcs_get (v : Int) (l : List Int) (s : Int) {i : Nat} (h : i ≤ l.length) : (plcs v l s)[i]? = some (plc v l s i) := by
  unfold plcs; rw [List.getElem?_map, List.getElem?_range (by omega)]; rfl
theorem lvs_get (v : Int) (l : List Int) (s : Int) {i : Nat} (h : i ≤ l.length) : (lvs v l s)[i]? = some (leaf (plc v l s i)) := by
  unfold lvs; rw [List.getElem?_map, plcs_get v l s h]; rfl
theorem lvs_U (v : Int) (l : List Int) (s : Int) : ∀ x ∈ lvs v l s, U x := fun x hx => by
  obtain ⟨o, _, rfl⟩ := List.mem_map.1 hx
  exact leaf_U o
theorem words_f (l : List Int) : seal_Words.f l = some (wd l) := rfl
theorem digest_f (k : Nat) (l : List Int) : private_digest.m k l = some (wd l) := by rw [private_digest.m_eq, words_f]; rfl
theorem key_f (k : Nat) (s a : Int) : private_key.m k s a = some (key s a) := by rw [private_key.m_eq, digest_f]; simp only [Option.bind_some, wrap_i64']; rfl
theorem leaf_f (k : Nat) (o : OT) : private_Open_leaf.m k o = some (leaf o) := by
  rw [private_Open_leaf.m_eq, digest_f, digest_f]
  unfold leaf
  by_cases h : o.1 = 0
  · rw [if_pos (bT h), if_pos h]; rfl
  · rw [if_neg (bF h), if_neg h]; rfl
theorem places_l0 {x : Int × List Int} (s : Int) (hl : x.2.length ≤ 10000) : ∀ (m i : Nat), x.2.length - i = m → i ≤ x.2.length →
    Ev2 (fun n k => private_places.l0 n k x s (i : Int) ((List.range (i + 1)).map (plc x.1 x.2 s))) (plcs x.1 x.2 s)
  | 0, i, hm, hi => by
    refine Ev2.step (fun n k => private_places.l0_succ n k _ _ _ _) ?_
    obtain rfl : i = x.2.length := by omega
    exact ev2F (dF (by omega)) (Ev2.now _)
  | m + 1, i, hm, hi => by
    have hlt : i < x.2.length := by omega
    refine Ev2.step (fun n k => private_places.l0_succ n k _ _ _ _) ?_
    have e1 : IntKind.wrap IntKind.i64 ((i : Int) + 1) = ((i + 1 : Nat) : Int) := by rw [wrap_i64', w64 (by omega) (by omega)]; omega
    rw [e1, wrap_i64']
    refine ev2T (dT (by omega)) (ev2T (by omega) (ev2T (by omega) (Ev2.bind (a := key s ((i + 1 : Nat) : Int)) ⟨0, fun k _ => key_f k _ _⟩ (ev2T (by simp; omega) ?_))))
    have := places_l0 s hl m (i + 1) (by omega) (by omega)
    rw [List.range_succ, List.map_append] at this
    have e2 : plc x.1 x.2 s (i + 1) = (((i + 1 : Nat) : Int), wrap64 (x.2.getD (Int.toNat (i : Int)) (Int.ofNat 0)), 0, key s ((i + 1 : Nat) : Int), []) := by
      unfold plc; rw [if_neg (by omega)]; rfl
    simpa [e2] using this
theorem places_f (x : Int × List Int) (s : Int) (hl : x.2.length ≤ 10000) : Ev (fun k => private_places.m k x s) (plcs x.1 x.2 s) := by
  refine evX (fun k => private_places.m_eq k x s) ?_
  refine Ev.bind (a := key s 0) ⟨0, fun k _ => key_f k _ _⟩ ?_
  exact (places_l0 s hl x.2.length 0 (by omega) (by omega)).diag
theorem leaves_l0 (L : List OT) (hl : L.length ≤ 20000) : ∀ (m i : Nat), L.length - i = m → i ≤ L.length → Ev2 (fun n k => private_Leaves.l0 n k L (i : Int) ((L.take i).map leaf)) (L.map leaf)
  | 0, i, hm, hi => by
    refine Ev2.step (fun n k => private_Leaves.l0_succ n k _ _ _) ?_
    obtain rfl : i = L.length := by omega
    rw [List.take_length]
    exact ev2F (dF (by omega)) (Ev2.now _)
  | m + 1, i, hm, hi => by
    have hlt : i < L.length := by omega
    refine Ev2.step (fun n k => private_Leaves.l0_succ n k _ _ _) ?_
    have e1 : IntKind.wrap IntKind.i64 ((i : Int) + 1) = ((i + 1 : Nat) : Int) := by rw [wrap_i64', w64 (by omega) (by omega)]; omega
    have e2 : List.getD L (Int.toNat (i : Int)) (Int.ofNat 0, Int.ofNat 0, Int.ofNat 0, Int.ofNat 0, []) = L[i] := by
      rw [Int.toNat_natCast, List.getD_eq_getElem?_getD, List.getElem?_eq_getElem hlt]; rfl
    rw [e1, e2]
    refine ev2T (dT (by omega)) (ev2T (by omega) (ev2T (by omega) (Ev2.bind (a := leaf L[i]) ⟨0, fun k _ => leaf_f k _⟩ (ev2T (by simp; omega) ?_))))
    have := leaves_l0 L hl m (i + 1) (by omega) (by omega)
    rw [List.take_succ_eq_append_getElem hlt, List.map_append] at this
    exact this
theorem leaves_f (x : Int × List Int) (s : Int) (hl : x.2.length ≤ 10000) : Ev (fun k => private_Leaves.m k x s) (lvs x.1 x.2 s) := by
  refine evX (fun k => private_Leaves.m_eq k x s) ?_
  refine Ev.bind (places_f x s hl) ?_
  exact (leaves_l0 (plcs x.1 x.2 s) (by rw [plcs_len]; omega) _ 0 rfl (by omega)).diag
/-- The commitment. -/
def cmt (v : Int) (l : List Int) (s : Int) : Int := root 0 (lvs v l s)
theorem cmt_U (v : Int) (l : List Int) (s : Int) : U (cmt v l s) := root_U 0 U0 _ _ rfl (lvs_U v l s)
theorem commit_f (x : Int × List Int) (s : Int) (hl : x.2.length ≤ 10000) : Ev (fun k => private_Commit.m k x s) (cmt x.1 x.2 s) := by
  refine evX (fun k => private_Commit.m_eq k x s) ?_
  refine Ev.bind (leaves_f x s hl) (Ev.bind (root_f _ _ rfl (by rw [lvs_len]; omega) (by rw [lvs_len]; omega) (lvs_U _ _ _)) (Ev.now _))
theorem agrees_f (r : Int) (x : Int × List Int) (s : Int) (hl : x.2.length ≤ 10000) : Ev (fun k => private_Agrees.m k r x s) (cmt x.1 x.2 s == r) := by
  refine evX (fun k => private_Agrees.m_eq k r x s) ?_
  exact Ev.bind (commit_f x s hl) (Ev.now _)
/-- What is shown of a place. -/
def opn (v : Int) (l : List Int) (s : Int) (i : Nat) : OT := ((plc v l s i).1, (plc v l s i).2.1, (plc v l s i).2.2.1, (plc v l s i).2.2.2.1, path 0 (lvs v l s) i)
theorem show_f (x : Int × List Int) (s : Int) (hl : x.2.length ≤ 10000) {i : Nat} (hi : i ≤ x.2.length) : Ev (fun k => private_Show.m k x s (i : Int)) (opn x.1 x.2 s i, 0) := by
  refine evX (fun k => private_Show.m_eq k x s _) ?_
  refine evF (dF (by omega)) (evF (dF (by omega)) (Ev.bind (places_f x s hl) (evT (by omega) (evT (by rw [plcs_len]; omega) (Ev.bind (leaves_f x s hl) (Ev.bind (open_f (i := i) (by rw [lvs_len]; omega) (by rw [lvs_len]; omega) (lvs_U _ _ _)) ?_))))))
  have e : List.getD (plcs x.1 x.2 s) (Int.toNat (i : Int)) (Int.ofNat 0, Int.ofNat 0, Int.ofNat 0, Int.ofNat 0, []) = plc x.1 x.2 s i := by
    rw [Int.toNat_natCast, List.getD_eq_getElem?_getD, plcs_get _ _ _ hi]; rfl
  rw [e]
  exact Ev.now _
theorem shown_f (x : Int × List Int) (s : Int) (hl : x.2.length ≤ 10000) {i : Nat} (hi : i ≤ x.2.length) : Ev (fun k => plexuslaw47_shown.m k x s (i : Int)) (opn x.1 x.2 s i, 0) := by
  refine evX (fun k => plexuslaw47_shown.m_eq k x s _) ?_
  refine Ev.bind (show_f x s hl hi) ?_
  refine Ev.bind (a := opn x.1 x.2 s i) ⟨0, fun k _ => plexuslaw47_of.m_eq k _⟩ (Ev.now _)
end Go.Proofs.YtchpkglnmpmcmaaQ
