/- Several texts joined. -/
import Derived.Test.YtchpkglnmpmcmaaX47
import Derived.Test.YtchpkglnmpmcmaaQA
import Derived.Test.YtchpkglnmpmcmaaQV
/- What the functions of private compute: leaves, commitments, openings. -/
namespace Go.Proofs.YtchpkglnmpmcmaaQ
set_option linter.unusedVariables false
set_option linter.unusedSimpArgs false
open Go Go.RowKit Go.Proofs.Ytchpkglnmpmcmaa.P47 Go.Proofs.Ytchpkglnmpmcmaa.V47 Go.Proofs.YtchpkglnmpmcmaaW.PrintWords Go.Proofs.YtchpkglnmpmcmaaW.PrintLast Go.Proofs.YtchpkglnmpmcmaaW.PrintMore
abbrev OT : Type := Int × Int × Int × Int × List Int
def wd (l : List Int) : Int := seal_stepv ((l.map (IntKind.u64.wrap ·)).foldl seal_stepv 123610861172083) (IntKind.u64.wrap (l.length : Int))
theorem wrap_U (x : Int) : U (IntKind.u64.wrap x) := by
  rw [show IntKind.u64.wrap x = x % 18446744073709551616 from rfl]; unfold U; omega
theorem stepv_eq {a b : Int} (ha : U a) (hb : U b) : seal_stepv a b = ((stepN a.toNat b.toNat : Nat) : Int) := by
  obtain ⟨A, rfl, hA⟩ := ha.nat
  obtain ⟨B, rfl, hB⟩ := hb.nat
  unfold seal_stepv
  rw [dstep_f hA hB]; rfl
theorem stepv_U {a b : Int} (ha : U a) (hb : U b) : U (seal_stepv a b) := by rw [stepv_eq ha hb]; exact U.of (stepN_lt _ _)
theorem stepv_right {a b c : Int} (ha : U a) (hb : U b) (hc : U c) : seal_stepv a b = seal_stepv a c ↔ b = c := by
  rw [stepv_eq ha hb, stepv_eq ha hc]
  obtain ⟨A, rfl, hA⟩ := ha.nat
  obtain ⟨B, rfl, hB⟩ := hb.nat
  obtain ⟨C, rfl, hC⟩ := hc.nat
  simp only [Int.toNat_natCast, Int.ofNat_inj]
  exact stepN_inj hA hB hC
theorem stepv_left {a b c : Int} (ha : U a) (hb : U b) (hc : U c) : seal_stepv b a = seal_stepv c a ↔ b = c := by
  rw [stepv_eq hb ha, stepv_eq hc ha]
  obtain ⟨A, rfl, hA⟩ := ha.nat
  obtain ⟨B, rfl, hB⟩ := hb.nat
  obtain ⟨C, rfl, hC⟩ := hc.nat
  simp only [Int.toNat_natCast, Int.ofNat_inj]
  rw [stepN_comm B A, stepN_comm C A]
  exact stepN_inj hA hB hC
theorem U_start : U 123610861172083 := ⟨by decide, by decide⟩
theorem fold_stepv_U : ∀ (l : List Int) (a : Int), U a → (∀ x ∈ l, U x) → U (l.foldl seal_stepv a)
  | [], _, h, _ => h
  | x :: l, a, h, hl => fold_stepv_U l _ (stepv_U h (hl x (List.mem_cons_self ..))) fun y hy => hl y (List.mem_cons_of_mem _ hy)
theorem wd_U (l : List Int) : U (wd l) := stepv_U (fold_stepv_U _ _ U_start fun x hx => by
  obtain ⟨y, _, rfl⟩ := List.mem_map.1 hx
  exact wrap_U y) (wrap_U _)
theorem wd_2 {a b c d : Int} (h : a = c ∨ b = d) : wd [a, b] = wd [c, d] ↔ IntKind.u64.wrap a = IntKind.u64.wrap c ∧ IntKind.u64.wrap b = IntKind.u64.wrap d := by
  unfold wd
  simp only [List.map_cons, List.map_nil, List.foldl_cons, List.foldl_nil, List.length_cons, List.length_nil]
  have ua := stepv_U U_start (wrap_U a)
  have uc := stepv_U U_start (wrap_U c)
  rw [stepv_left (wrap_U _) (stepv_U ua (wrap_U _)) (stepv_U uc (wrap_U _))]
  rcases h with rfl | rfl
  · rw [stepv_right ua (wrap_U _) (wrap_U _)]; simp
  · rw [stepv_left (wrap_U _) ua uc, stepv_right U_start (wrap_U _) (wrap_U _)]; simp
theorem wd_3 {a b c d e f : Int} (h : (b = e ∧ c = f) ∨ (a = d ∧ c = f) ∨ (a = d ∧ b = e)) : wd [a, b, c] = wd [d, e, f] ↔ IntKind.u64.wrap a = IntKind.u64.wrap d ∧ IntKind.u64.wrap b = IntKind.u64.wrap e ∧ IntKind.u64.wrap c = IntKind.u64.wrap f := by
  unfold wd
  simp only [List.map_cons, List.map_nil, List.foldl_cons, List.foldl_nil, List.length_cons, List.length_nil]
  have ua := stepv_U U_start (wrap_U a)
  have ud := stepv_U U_start (wrap_U d)
  have ub := stepv_U ua (wrap_U b)
  have ue := stepv_U ud (wrap_U e)
  rw [stepv_left (wrap_U _) (stepv_U ub (wrap_U _)) (stepv_U ue (wrap_U _))]
  rcases h with ⟨rfl, rfl⟩ | ⟨rfl, rfl⟩ | ⟨rfl, rfl⟩
  · rw [stepv_left (wrap_U _) ub ue, stepv_left (wrap_U _) ua ud, stepv_right U_start (wrap_U _) (wrap_U _)]; simp
  · rw [stepv_left (wrap_U _) ub ue, stepv_right ua (wrap_U _) (wrap_U _)]; simp
  · rw [stepv_right ub (wrap_U _) (wrap_U _)]; simp
def S (x : Int) : Prop := -9223372036854775808 ≤ x ∧ x < 9223372036854775808
theorem S_wrap (x : Int) : S (wrap64 x) := by unfold S wrap64; omega
theorem S_inj {x y : Int} (hx : S x) (hy : S y) : IntKind.u64.wrap x = IntKind.u64.wrap y ↔ x = y := by
  rw [show IntKind.u64.wrap x = x % 18446744073709551616 from rfl, show IntKind.u64.wrap y = y % 18446744073709551616 from rfl]
  unfold S at hx hy; omega
theorem U_inj {x y : Int} (hx : U x) (hy : U y) : wrap64 x = wrap64 y ↔ x = y := by unfold wrap64; unfold U at hx hy; omega
theorem wrap_w64 {x : Int} (hx : U x) : IntKind.u64.wrap (wrap64 x) = x := by
  rw [show IntKind.u64.wrap (wrap64 x) = wrap64 x % 18446744073709551616 from rfl]; unfold wrap64; unfold U at hx; omega
def key (salt at_ : Int) : Int := wrap64 (wd [salt, at_])
theorem key_S (s a : Int) : S (key s a) := S_wrap _
theorem key_salt {s t : Int} (i : Int) (hs : S s) (ht : S t) : key s i = key t i ↔ s = t := by
  unfold key
  rw [U_inj (wd_U _) (wd_U _), wd_2 (.inr rfl), S_inj hs ht]; simp
def leaf (o : OT) : Int := if o.1 = 0 then wd [o.2.2.2.1, o.2.1, o.2.2.1] else wd [o.2.2.2.1, o.2.1]
theorem leaf_U (o : OT) : U (leaf o) := by unfold leaf; split <;> exact wd_U _
def plc (v : Int) (l : List Int) (s : Int) (i : Nat) : OT := if i = 0 then (0, v, (l.length : Int), key s 0, []) else ((i : Int), wrap64 (l.getD (i - 1) 0), 0, key s i, [])
def plcs (v : Int) (l : List Int) (s : Int) : List OT := (List.range (l.length + 1)).map (plc v l s)
def lvs (v : Int) (l : List Int) (s : Int) : List Int := (plcs v l s).map leaf
theorem plcs_len (v : Int) (l : List Int) (s : Int) : (plcs v l s).length = l.length + 1 := by simp [plcs]
theorem lvs_len (v : Int) (l : List Int) (s : Int) : (lvs v l s).length = l.length + 1 := by simp [lvs, plcs_len]
theorem plcs_get (v : Int) (l : List Int) (s : Int) {i : Nat} (h : i ≤ l.length) : (plcs v l s)[i]? = some (plc v l s i) := by
  unfold plcs; rw [List.getElem?_map, List.getElem?_range (by omega)]; rfl
theorem lvs_get (v : Int) (l : List Int) (s : Int) {i : Nat} (h : i ≤ l.length) : (lvs v l s)[i]? = some (leaf (plc v l s i)) := by
  unfold lvs; rw [List.getElem?_map, plcs_get v l s h]; rfl
theorem lvs_U (v : Int) (l : List Int) (s : Int) : ∀ x ∈ lvs v l s, U x := fun x hx => by
  obtain ⟨o, _, rfl⟩ := List.mem_map.1 hx
  exact leaf_U o
theorem words_f (l : List Int) : seal_Words.f l = some (wd l) := rfl
theorem digest_f (k : Nat) (l : List Int) : private_digest.m k l = some (wd l) := by rw [private_digest.m_eq, words_f]; rfl
theorem key_f (k : Nat) (s a : Int) : private_key.m k s a = some (key s a) := by rw [private_key.m_eq, digest_f]; simp only [Option.bind_some, wrap_i64']; rfl
theorem leaf_f (k : Nat) (o : OT) : private_Open_leaf.m k o = some (leaf o) := by
  rw [private_Open_leaf.m_eq, digest_f, digest_f]
  unfold leaf
  by_cases h : o.1 = 0
  · rw [if_pos (bT h), if_pos h]; rfl
  · rw [if_neg (bF h), if_neg h]; rfl
theorem places_l0 {x : Int × List Int} (s : Int) (hl : x.2.length ≤ 10000) : ∀ (m i : Nat), x.2.length - i = m → i ≤ x.2.length →
    Ev2 (fun n k => private_places.l0 n k x s (i : Int) ((List.range (i + 1)).map (plc x.1 x.2 s))) (plcs x.1 x.2 s)
  | 0, i, hm, hi => by
    refine Ev2.step (fun n k => private_places.l0_succ n k _ _ _ _) ?_
    obtain rfl : i = x.2.length := by omega
    exact ev2F (dF (by omega)) (Ev2.now _)
  | m + 1, i, hm, hi => by
    have hlt : i < x.2.length := by omega
    refine Ev2.step (fun n k => private_places.l0_succ n k _ _ _ _) ?_
    have e1 : IntKind.wrap IntKind.i64 ((i : Int) + 1) = ((i + 1 : Nat) : Int) := by rw [wrap_i64', w64 (by omega) (by omega)]; omega
    rw [e1, wrap_i64']
    refine ev2T (dT (by omega)) (ev2T (by omega) (ev2T (by omega) (Ev2.bind (a := key s ((i + 1 : Nat) : Int)) ⟨0, fun k _ => key_f k _ _⟩ (ev2T (by simp; omega) ?_))))
    have := places_l0 s hl m (i + 1) (by omega) (by omega)
    rw [List.range_succ, List.map_append] at this
    have e2 : plc x.1 x.2 s (i + 1) = (((i + 1 : Nat) : Int), wrap64 (x.2.getD (Int.toNat (i : Int)) (Int.ofNat 0)), 0, key s ((i + 1 : Nat) : Int), []) := by
      unfold plc; rw [if_neg (by omega)]; rfl
    simpa [e2] using this
theorem places_f (x : Int × List Int) (s : Int) (hl : x.2.length ≤ 10000) : Ev (fun k => private_places.m k x s) (plcs x.1 x.2 s) := by
  refine evX (fun k => private_places.m_eq k x s) ?_
  refine Ev.bind (a := key s 0) ⟨0, fun k _ => key_f k _ _⟩ ?_
  exact (places_l0 s hl x.2.length 0 (by omega) (by omega)).diag
theorem leaves_l0 (L : List OT) (hl : L.length ≤ 20000) : ∀ (m i : Nat), L.length - i = m → i ≤ L.length → Ev2 (fun n k => private_Leaves.l0 n k L (i : Int) ((L.take i).map leaf)) (L.map leaf)
  | 0, i, hm, hi => by
    refine Ev2.step (fun n k => private_Leaves.l0_succ n k _ _ _) ?_
    obtain rfl : i = L.length := by omega
    rw [List.take_length]
    exact ev2F (dF (by omega)) (Ev2.now _)
  | m + 1, i, hm, hi => by
    have hlt : i < L.length := by omega
    refine Ev2.step (fun n k => private_Leaves.l0_succ n k _ _ _) ?_
    have e1 : IntKind.wrap IntKind.i64 ((i : Int) + 1) = ((i + 1 : Nat) : Int) := by rw [wrap_i64', w64 (by omega) (by omega)]; omega
    have e2 : List.getD L (Int.toNat (i : Int)) (Int.ofNat 0, Int.ofNat 0, Int.ofNat 0, Int.ofNat 0, []) = L[i] := by
      rw [Int.toNat_natCast, List.getD_eq_getElem?_getD, List.getElem?_eq_getElem hlt]; rfl
    rw [e1, e2]
    refine ev2T (dT (by omega)) (ev2T (by omega) (ev2T (by omega) (Ev2.bind (a := leaf L[i]) ⟨0, fun k _ => leaf_f k _⟩ (ev2T (by simp; omega) ?_))))
    have := leaves_l0 L hl m (i + 1) (by omega) (by omega)
    rw [List.take_succ_eq_append_getElem hlt, List.map_append] at this
    exact this
theorem leaves_f (x : Int × List Int) (s : Int) (hl : x.2.length ≤ 10000) : Ev (fun k => private_Leaves.m k x s) (lvs x.1 x.2 s) := by
  refine evX (fun k => private_Leaves.m_eq k x s) ?_
  refine Ev.bind (places_f x s hl) ?_
  exact (leaves_l0 (plcs x.1 x.2 s) (by rw [plcs_len]; omega) _ 0 rfl (by omega)).diag
def cmt (v : Int) (l : List Int) (s : Int) : Int := root 0 (lvs v l s)
theorem cmt_U (v : Int) (l : List Int) (s : Int) : U (cmt v l s) := root_U 0 U0 _ _ rfl (lvs_U v l s)
theorem commit_f (x : Int × List Int) (s : Int) (hl : x.2.length ≤ 10000) : Ev (fun k => private_Commit.m k x s) (cmt x.1 x.2 s) := by
  refine evX (fun k => private_Commit.m_eq k x s) ?_
  refine Ev.bind (leaves_f x s hl) (Ev.bind (root_f _ _ rfl (by rw [lvs_len]; omega) (by rw [lvs_len]; omega) (lvs_U _ _ _)) (Ev.now _))
theorem agrees_f (r : Int) (x : Int × List Int) (s : Int) (hl : x.2.length ≤ 10000) : Ev (fun k => private_Agrees.m k r x s) (cmt x.1 x.2 s == r) := by
  refine evX (fun k => private_Agrees.m_eq k r x s) ?_
  exact Ev.bind (commit_f x s hl) (Ev.now _)
def opn (v : Int) (l : List Int) (s : Int) (i : Nat) : OT := ((plc v l s i).1, (plc v l s i).2.1, (plc v l s i).2.2.1, (plc v l s i).2.2.2.1, path 0 (lvs v l s) i)
theorem show_f (x : Int × List Int) (s : Int) (hl : x.2.length ≤ 10000) {i : Nat} (hi : i ≤ x.2.length) : Ev (fun k => private_Show.m k x s (i : Int)) (opn x.1 x.2 s i, 0) := by
  refine evX (fun k => private_Show.m_eq k x s _) ?_
  refine evF (dF (by omega)) (evF (dF (by omega)) (Ev.bind (places_f x s hl) (evT (by omega) (evT (by rw [plcs_len]; omega) (Ev.bind (leaves_f x s hl) (Ev.bind (open_f (i := i) (by rw [lvs_len]; omega) (by rw [lvs_len]; omega) (lvs_U _ _ _)) ?_))))))
  have e : List.getD (plcs x.1 x.2 s) (Int.toNat (i : Int)) (Int.ofNat 0, Int.ofNat 0, Int.ofNat 0, Int.ofNat 0, []) = plc x.1 x.2 s i := by
    rw [Int.toNat_natCast, List.getD_eq_getElem?_getD, plcs_get _ _ _ hi]; rfl
  rw [e]
  exact Ev.now _
theorem shown_f (x : Int × List Int) (s : Int) (hl : x.2.length ≤ 10000) {i : Nat} (hi : i ≤ x.2.length) : Ev (fun k => plexuslaw47_shown.m k x s (i : Int)) (opn x.1 x.2 s i, 0) := by
  refine evX (fun k => plexuslaw47_shown.m_eq k x s _) ?_
  refine Ev.bind (show_f x s hl hi) ?_
  refine Ev.bind (a := opn x.1 x.2 s i) ⟨0, fun k _ => plexuslaw47_of.m_eq k _⟩ (Ev.now _)
end Go.Proofs.YtchpkglnmpmcmaaQ
namespace Go.Proofs.YtchpkglnmpmcmaaQ
set_option linter.unusedVariables false
set_option linter.unusedSimpArgs false
open Go Go.RowKit Go.Proofs.Ytchpkglnmpmcmaa.P47 Go.Proofs.Ytchpkglnmpmcmaa.V47 Go.Proofs.YtchpkglnmpmcmaaW.PrintWords Go.Proofs.YtchpkglnmpmcmaaW.PrintLast Go.Proofs.YtchpkglnmpmcmaaW.PrintMore
def chk (r : Int) (n i : Nat) (o : OT) : Int :=
  if o.2.2.1 = (if i = 0 then (n : Int) else 0) then (if (sides (n + 1) i).length = o.2.2.2.2.length then (if fold (leaf o) o.2.2.2.2 (sides (n + 1) i) = r then 0 else 470) else 470) else 470
theorem pcheck_j1 {r : Int} {n i : Nat} {o : OT} (hn : n ≤ 64) (hi : i ≤ n) (ho : o.1 = i) (hp : ∀ x ∈ o.2.2.2.2, U x) : Ev (fun k => private_Check.j1 k r n o (if i = 0 then (n : Int) else 0) false) (chk r n i o) := by
  refine evX (fun k => private_Check.j1_eq k _ _ _ _ _) ?_
  refine evF (by decide) ?_
  unfold chk
  by_cases hb : o.2.2.1 = (if i = 0 then (n : Int) else 0)
  · rw [if_pos hb]
    refine evF (nF hb) (Ev.bind (a := leaf o) ⟨0, fun k _ => leaf_f k _⟩ ?_)
    have e1 : IntKind.wrap IntKind.i64 ((n : Int) + 1) = ((n + 1 : Nat) : Int) := by rw [wrap_i64', w64 (by omega) (by omega)]; omega
    have h := check_f (r := r) (leaf := leaf o) (n := n + 1) (i := i) (p := o.2.2.2.2) (by omega) (by omega) hp (leaf_U o)
    rw [e1, ho]
    refine Ev.bind h ?_
    by_cases q : (sides (n + 1) i).length = o.2.2.2.2.length
    · by_cases q2 : fold (leaf o) o.2.2.2.2 (sides (n + 1) i) = r
      · simp only [q, q2, if_true]
        exact evF (nF rfl) (Ev.now _)
      · simp only [q, q2, if_true, if_false]
        exact evT (nT (by decide)) (Ev.now _)
    · simp only [q, if_false]
      exact evT (nT (by decide)) (Ev.now _)
  · rw [if_neg hb]
    exact evT (nT hb) (Ev.now _)
theorem pcheck_f {r : Int} {n i : Nat} {o : OT} (hn : n ≤ 64) (hi : i ≤ n) (ho : o.1 = i) (hp : ∀ x ∈ o.2.2.2.2, U x) : Ev (fun k => private_Check.m k r n o) (chk r n i o) := by
  refine evX (fun k => private_Check.m_eq k _ _ _) ?_
  have j0 : Ev (fun k => private_Check.j0 k r n o (if i = 0 then (n : Int) else 0)) (chk r n i o) := by
    refine evX (fun k => private_Check.j0_eq k _ _ _ _) ?_
    refine evF (dF (by omega)) (evF (dF (by omega)) (evF (dF (by omega)) ?_))
    rw [show decide (o.1 > (n : Int)) = false from decide_eq_false (by omega)]
    exact pcheck_j1 hn hi ho hp
  by_cases h0 : i = 0
  · rw [if_pos h0] at j0
    exact evT (bT (by omega)) j0
  · rw [if_neg h0] at j0
    exact evF (bF (by omega)) j0
theorem pcheck_arg {r n : Int} {o : OT} (h : n < 0 ∨ 64 < n ∨ o.1 < 0 ∨ n < o.1) : Ev (fun k => private_Check.m k r n o) 1 := by
  refine evX (fun k => private_Check.m_eq k _ _ _) ?_
  have j0 : ∀ v, Ev (fun k => private_Check.j0 k r n o v) 1 := fun v => by
    have j1 : Ev (fun k => private_Check.j1 k r n o v true) 1 := evX (fun k => private_Check.j1_eq k _ _ _ _ _) (evT rfl (Ev.now _))
    refine evX (fun k => private_Check.j0_eq k _ _ _ _) ?_
    by_cases h1 : n < 0
    · exact evT (dT h1) j1
    refine evF (dF h1) ?_
    by_cases h2 : n > 64
    · exact evT (dT h2) j1
    refine evF (dF h2) ?_
    by_cases h3 : o.1 < 0
    · exact evT (dT h3) j1
    refine evF (dF h3) ?_
    rw [show decide (o.1 > n) = true from decide_eq_true (by omega)]
    exact j1
  by_cases h0 : o.1 = 0
  · exact evT (bT h0) (j0 _)
  · exact evF (bF h0) (j0 _)
theorem checked_of {r n : Int} {o : OT} {c : Int} (h : Ev (fun k => private_Check.m k r n o) c) : Ev (fun k => plexuslaw47_checked.m k r n o) c := by
  refine evX (fun k => plexuslaw47_checked.m_eq k _ _ _) ?_
  refine Ev.bind (a := o) ⟨0, fun k _ => plexuslaw47_to.m_eq k _⟩ ?_
  exact Ev.bind h (Ev.now _)
theorem checked_f {r : Int} {n i : Nat} {o : OT} (hn : n ≤ 64) (hi : i ≤ n) (ho : o.1 = i) (hp : ∀ x ∈ o.2.2.2.2, U x) : Ev (fun k => plexuslaw47_checked.m k r n o) (chk r n i o) := checked_of (pcheck_f hn hi ho hp)
theorem leaf_opn (v : Int) (l : List Int) (s : Int) (i : Nat) : leaf (opn v l s i) = leaf (plc v l s i) := by
  unfold leaf opn; rfl
theorem opn_at (v : Int) (l : List Int) (s : Int) (i : Nat) : (opn v l s i).1 = i := by
  unfold opn plc
  by_cases h : i = 0
  · subst h; rfl
  · rw [if_neg h]
theorem opn_b (v : Int) (l : List Int) (s : Int) (i : Nat) : (opn v l s i).2.2.1 = if i = 0 then (l.length : Int) else 0 := by
  unfold opn plc
  by_cases h : i = 0
  · rw [if_pos h, if_pos h]
  · rw [if_neg h, if_neg h]
theorem opn_path (v : Int) (l : List Int) (s : Int) (i : Nat) : (opn v l s i).2.2.2.2 = path 0 (lvs v l s) i := rfl
theorem opn_pathU (v : Int) (l : List Int) (s : Int) (i : Nat) : ∀ x ∈ (opn v l s i).2.2.2.2, U x := path_U 0 U0 _ _ rfl (lvs_U v l s) i
theorem chk_opn (v : Int) (l : List Int) (s : Int) {i : Nat} (hi : i ≤ l.length) : chk (cmt v l s) l.length i (opn v l s i) = 0 := by
  unfold chk
  rw [if_pos (opn_b v l s i), if_pos (by rw [opn_path, path_len 0 (l.length + 1) _ (lvs_len v l s)]), if_pos]
  rw [opn_path, leaf_opn]
  have h := fold_path 0 (l.length + 1) (lvs v l s) (lvs_len v l s) i (by omega)
  rw [List.getD_eq_getElem?_getD, lvs_get v l s hi] at h
  exact h
end Go.Proofs.YtchpkglnmpmcmaaQ
namespace Go.Proofs.YtchpkglnmpmcmaaQ
set_option linter.unusedVariables false
set_option linter.unusedSimpArgs false
set_option linter.unusedSectionVars false
open Go Go.RowKit Go.Proofs.Ytchpkglnmpmcmaa.V47 Go.Proofs.YtchpkglnmpmcmaaW.PrintWords Go.Proofs.YtchpkglnmpmcmaaW.PrintLast Go.Proofs.YtchpkglnmpmcmaaW.PrintMore
def BY (x : Int) : Prop := 0 ≤ x ∧ x < 256
def PB (v : Nat) (b : Int) : Prop := 0 ≤ b ∧ b < 2 ^ v
theorem PB_zero (v : Nat) : PB v 0 := by
  have : (0 : Int) < ((2 ^ v : Nat) : Int) := Int.ofNat_lt.2 (Nat.two_pow_pos v)
  exact ⟨by decide, by simpa using this⟩
theorem u64_wrap (x : Int) : IntKind.wrap IntKind.u64 x = x % 18446744073709551616 := rfl
theorem ofInt_nat (m : Nat) (h : m < 2 ^ 64) : (BitVec.ofInt (IntKind.bits IntKind.u64) (m : Int)).toNat = m := by
  rw [BitVec.ofInt_natCast, BitVec.toNat_ofNat]; exact Nat.mod_eq_of_lt h
theorem and_le (a : Int) {m : Nat} (h : m < 2 ^ 64) : 0 ≤ IntKind.wrap IntKind.u64 (↑(BitVec.toNat (BitVec.ofInt (IntKind.bits IntKind.u64) a &&& BitVec.ofInt (IntKind.bits IntKind.u64) (m : Int))) : Int) ∧ IntKind.wrap IntKind.u64 (↑(BitVec.toNat (BitVec.ofInt (IntKind.bits IntKind.u64) a &&& BitVec.ofInt (IntKind.bits IntKind.u64) (m : Int))) : Int) ≤ m := by
  have e : BitVec.toNat (BitVec.ofInt (IntKind.bits IntKind.u64) a &&& BitVec.ofInt (IntKind.bits IntKind.u64) (m : Int)) ≤ m := by
    rw [BitVec.toNat_and, ofInt_nat m h]; exact Nat.and_le_right
  rw [u64_wrap]
  omega
theorem or_PB {v : Nat} (hv : v ≤ 60) {a b : Int} (ha : PB v a) (hb : PB v b) : PB v (IntKind.wrap IntKind.u64 (↑(BitVec.toNat (BitVec.ofInt (IntKind.bits IntKind.u64) a ||| BitVec.ofInt (IntKind.bits IntKind.u64) b)) : Int)) := by
  obtain ⟨x, rfl⟩ := Int.eq_ofNat_of_zero_le ha.1
  obtain ⟨y, rfl⟩ := Int.eq_ofNat_of_zero_le hb.1
  have h2 : 2 ^ v ≤ 2 ^ 60 := Nat.pow_le_pow_right (by decide) hv
  have hx : x < 2 ^ v := by have := ha.2; exact_mod_cast this
  have hy : y < 2 ^ v := by have := hb.2; exact_mod_cast this
  have e : BitVec.toNat (BitVec.ofInt (IntKind.bits IntKind.u64) (x : Int) ||| BitVec.ofInt (IntKind.bits IntKind.u64) (y : Int)) = x ||| y := by
    rw [BitVec.toNat_or, ofInt_nat x (by omega), ofInt_nat y (by omega)]
  rw [e, u64_wrap]
  have h3 : (x ||| y) < 2 ^ v := Nat.or_lt_two_pow hx hy
  have h4 : (((x ||| y : Nat) : Int)) % 18446744073709551616 = ((x ||| y : Nat) : Int) := by omega
  rw [h4]
  exact ⟨by omega, by exact_mod_cast h3⟩
theorem shl_one (j : Nat) (h : j ≤ 60) : Go.Vx.shF BinOp.shl IntKind.u64 1 (IntKind.wrap IntKind.u64 (j : Int)) = ((2 ^ j : Nat) : Int) := by
  have e : IntKind.wrap IntKind.u64 (j : Int) = (j : Int) := by rw [u64_wrap]; omega
  rw [e]
  show IntKind.wrap IntKind.u64 (1 * 2 ^ min (Int.toNat (j : Int)) 64) = _
  rw [Int.toNat_natCast, Nat.min_eq_left (by omega), Int.one_mul, u64_wrap]
  have h2 : 2 ^ j ≤ 2 ^ 60 := Nat.pow_le_pow_right (by decide) h
  have h3 : (2 : Int) ^ j = ((2 ^ j : Nat) : Int) := by simp
  rw [h3]
  generalize 2 ^ j = z at h2 ⊢
  omega
theorem shl_PB {v j : Nat} (hv : v ≤ 60) (h : j < v) : PB v (Go.Vx.shF BinOp.shl IntKind.u64 1 (IntKind.wrap IntKind.u64 (j : Int))) := by
  rw [shl_one j (by omega)]
  have : 2 ^ j < 2 ^ v := Nat.pow_lt_pow_right (by decide) h
  exact ⟨Int.natCast_nonneg _, by exact_mod_cast this⟩
theorem mask_eq {v : Nat} (hv : v ≤ 60) : IntKind.wrap IntKind.u64 (Go.Vx.shF BinOp.shl IntKind.u64 1 (IntKind.wrap IntKind.u64 (v : Int)) - 1) = ((2 ^ v - 1 : Nat) : Int) := by
  rw [shl_one v hv, u64_wrap]
  have h2 : 2 ^ v ≤ 2 ^ 60 := Nat.pow_le_pow_right (by decide) hv
  have h3 : 1 ≤ 2 ^ v := Nat.one_le_two_pow
  omega
theorem and_PB {v : Nat} (hv : v ≤ 60) (a : Int) : PB v (IntKind.wrap IntKind.u64 (↑(BitVec.toNat (BitVec.ofInt (IntKind.bits IntKind.u64) a &&& BitVec.ofInt (IntKind.bits IntKind.u64) (IntKind.wrap IntKind.u64 (Go.Vx.shF BinOp.shl IntKind.u64 1 (IntKind.wrap IntKind.u64 (v : Int)) - 1)))) : Int)) := by
  rw [mask_eq hv]
  have h2 : 2 ^ v ≤ 2 ^ 60 := Nat.pow_le_pow_right (by decide) hv
  have h3 : 1 ≤ 2 ^ v := Nat.one_le_two_pow
  have := and_le a (m := 2 ^ v - 1) (by omega)
  generalize IntKind.wrap IntKind.u64 _ = z at this ⊢
  have h4 : ((2 ^ v : Nat) : Int) = 2 ^ v := by simp
  refine ⟨this.1, ?_⟩
  rw [← h4]
  omega
theorem shr_PB {v : Nat} {a : Int} (ha : PB v a) (s : Int) : PB v (Go.Vx.shF BinOp.shr IntKind.u64 a s) := by
  show PB v (a.fdiv (2 ^ min s.toNat IntKind.u64.bits))
  have h3 : (2 : Int) ^ min s.toNat IntKind.u64.bits = ((2 ^ min s.toNat IntKind.u64.bits : Nat) : Int) := by simp
  obtain ⟨x, rfl⟩ := Int.eq_ofNat_of_zero_le ha.1
  rw [h3, Int.fdiv_eq_ediv_of_nonneg _ (Int.natCast_nonneg _)]
  have := Nat.div_le_self x (2 ^ min s.toNat IntKind.u64.bits)
  have e : ((x : Nat) : Int) / ((2 ^ min s.toNat IntKind.u64.bits : Nat) : Int) = ((x / 2 ^ min s.toNat IntKind.u64.bits : Nat) : Int) := by simp
  rw [e]
  exact ⟨Int.natCast_nonneg _, Int.lt_of_le_of_lt (Int.ofNat_le.2 this) ha.2⟩
theorem bit_f (a : Int) {i : Int} (h0 : 0 ≤ i) (h1 : i < 1000) : ∃ b, ∀ k, plexusref06_Bit.m k a i = some b := by
  exact ⟨_, fun k => (plexusref06_Bit.m_eq k a i).trans (if_neg (by rw [u64_wrap]; omega))⟩
theorem at_f {l : List Int} (hl : ∀ x ∈ l, BY x) {i : Nat} : ∃ b, BY b ∧ ∀ k, plexusref06_At.m k l (i : Int) = some b := by
  by_cases h : i < l.length
  · have hb := hl _ (List.getElem_mem h)
    refine ⟨l[i], hb, fun k => ?_⟩
    rw [plexusref06_At.m_eq, if_neg (dF (by omega)), if_pos (by omega), if_pos (by omega), wrap_i64', Int.toNat_natCast, List.getD_eq_getElem?_getD, List.getElem?_eq_getElem h]
    exact congrArg some (w64 (by have := hb.1; simp; omega) (by have := hb.2; simp; omega))
  · refine ⟨0, ⟨by decide, by decide⟩, fun k => ?_⟩
    rw [plexusref06_At.m_eq, if_pos (dT (by omega))]
theorem rem_range {x m : Nat} : Go.Vx.divF BinOp.rem IntKind.i64 (x : Int) (m : Int) = ((x % m : Nat) : Int) := by
  rw [rem_tmod, Int.tmod_eq_emod_of_nonneg (by omega)]; omega
theorem inc64 {i : Nat} (h : i < 1000000) : IntKind.wrap IntKind.i64 ((i : Int) + 1) = ((i + 1 : Nat) : Int) := by rw [wrap_i64', w64 (by omega) (by omega)]; omega
theorem turned_l0 (a : Int) {v t : Nat} (hv : v ≤ 16) (h1 : 1 ≤ v) (ht : t ≤ 100) : ∀ (m i : Nat) (x : Int), v - i = m → PB v x → ∃ r, PB v r ∧ Ev2 (fun n k => plexusref06_Turned.l0 n k a (v : Int) (t : Int) x (i : Int)) r
  | 0, i, x, hm, hx => ⟨x, hx, Ev2.step (fun n k => plexusref06_Turned.l0_succ n k _ _ _ _ _) (ev2F (dF (by omega)) (Ev2.now _))⟩
  | m + 1, i, x, hm, hx => by
    obtain ⟨b, hb⟩ := bit_f a (i := (i : Int)) (by omega) (by omega)
    have e1 : Go.Vx.divF BinOp.rem IntKind.i64 (IntKind.wrap IntKind.i64 ((i : Int) + (t : Int))) (v : Int) = (((i + t) % v : Nat) : Int) := by
      rw [wrap_i64', w64 (by omega) (by omega), show (i : Int) + (t : Int) = ((i + t : Nat) : Int) by omega, rem_range]
    have hlt : (i + t) % v < v := Nat.mod_lt _ (by omega)
    cases b with
    | true =>
      obtain ⟨r, hr, h⟩ := turned_l0 a hv h1 ht m (i + 1) _ (by omega) (or_PB (by omega) hx (shl_PB (j := (i + t) % v) (by omega) hlt))
      refine ⟨r, hr, Ev2.step (fun n k => plexusref06_Turned.l0_succ n k _ _ _ _ _) (ev2T (dT (by omega)) (Ev2.bind ⟨0, fun k _ => hb k⟩ (ev2T rfl (ev2F (by omega) ?_))))⟩
      rw [e1, inc64 (by omega)]
      exact ev2F (by rw [u64_wrap]; omega) h
    | false =>
      obtain ⟨r, hr, h⟩ := turned_l0 a hv h1 ht m (i + 1) x (by omega) hx
      refine ⟨r, hr, Ev2.step (fun n k => plexusref06_Turned.l0_succ n k _ _ _ _ _) (ev2T (dT (by omega)) (Ev2.bind ⟨0, fun k _ => hb k⟩ (ev2F (by decide) ?_)))⟩
      rw [inc64 (by omega)]
      exact h
theorem turned_f (a : Int) {v t : Nat} (hv : v ≤ 16) (h1 : 1 ≤ v) (ht : t ≤ 100) : ∃ r, PB v r ∧ Ev (fun k => plexusref06_Turned.m k a (v : Int) (t : Int)) r := by
  obtain ⟨r, hr, h⟩ := turned_l0 a hv h1 ht v 0 0 (by omega) (PB_zero v)
  exact ⟨r, hr, evX (fun k => plexusref06_Turned.m_eq k _ _ _) h.diag⟩
theorem size_l0 (a : Int) : ∀ (m i : Nat) (x : Int), 64 - i = m → ∃ r, Ev2 (fun n k => plexusref06_Size.l0 n k a x (i : Int)) r
  | 0, i, x, hm => ⟨x, Ev2.step (fun n k => plexusref06_Size.l0_succ n k _ _ _) (ev2F (dF (by omega)) (Ev2.now _))⟩
  | m + 1, i, x, hm => by
    obtain ⟨b, hb⟩ := bit_f a (i := (i : Int)) (by omega) (by omega)
    cases b with
    | true =>
      obtain ⟨r, h⟩ := size_l0 a m (i + 1) (IntKind.wrap IntKind.i64 (x + 1)) (by omega)
      refine ⟨r, Ev2.step (fun n k => plexusref06_Size.l0_succ n k _ _ _) (ev2T (dT (by omega)) (Ev2.bind ⟨0, fun k _ => hb k⟩ (ev2T rfl ?_)))⟩
      rw [inc64 (by omega)]
      exact h
    | false =>
      obtain ⟨r, h⟩ := size_l0 a m (i + 1) x (by omega)
      refine ⟨r, Ev2.step (fun n k => plexusref06_Size.l0_succ n k _ _ _) (ev2T (dT (by omega)) (Ev2.bind ⟨0, fun k _ => hb k⟩ (ev2F (by decide) ?_)))⟩
      rw [inc64 (by omega)]
      exact h
theorem size_f (a : Int) : ∃ r, Ev (fun k => plexusref06_Size.m k a) r := by
  obtain ⟨r, h⟩ := size_l0 a 64 0 0 rfl
  exact ⟨r, evX (fun k => plexusref06_Size.m_eq k _) h.diag⟩
abbrev Asc (l : List Int) : Prop := l.Pairwise (· ≤ ·)
theorem with_l0 {l : List Int} (hs : Asc l) (b : Int) (hl : l.length ≤ 1000) : ∀ (m i : Nat), l.length - i = m → i ≤ l.length → (∀ x ∈ l.take i, x ≤ b) →
    ∃ out, Asc out ∧ out.length = l.length + 1 ∧ (∀ x ∈ out, x = b ∨ x ∈ l) ∧ Ev2 (fun n k => plexusref06_With.l0 n k l b (i : Int)) out := by
  have fin : ∀ i, i ≤ l.length → (∀ x ∈ l.take i, x ≤ b) → (∀ x ∈ l.drop i, b ≤ x) → ∃ out, Asc out ∧ out.length = l.length + 1 ∧ (∀ x ∈ out, x = b ∨ x ∈ l) ∧ Ev2 (fun n k => plexusref06_With.j0 k l b (i : Int)) out := fun i hi h1 h2 => by
    refine ⟨l.take i ++ [b] ++ l.drop i, ?_, by simp; omega, fun x hx => ?_, ?_⟩
    · have h0 : Asc (l.take i ++ l.drop i) := by rw [List.take_append_drop]; exact hs
      rw [Asc, List.pairwise_append] at h0
      rw [Asc, List.append_assoc, List.pairwise_append]
      refine ⟨h0.1, ?_, fun x hx y hy => ?_⟩
      · rw [List.singleton_append, List.pairwise_cons]
        exact ⟨h2, h0.2.1⟩
      · rcases List.mem_append.1 hy with q | q
        · rw [List.mem_singleton.1 q]; exact h1 x hx
        · exact h0.2.2 x hx y q
    · rcases List.mem_append.1 hx with q | q
      · rcases List.mem_append.1 q with q | q
        · exact .inr (List.mem_of_mem_take q)
        · exact .inl (List.mem_singleton.1 q)
      · exact .inr (List.mem_of_mem_drop q)
    · refine Ev2.congr (fun n k => plexusref06_With.j0_eq k _ _ _) ?_
      rw [Int.toNat_natCast]
      refine ev2T (by omega) (ev2T (by omega) (ev2T (by simp; omega) (ev2T (by simp; omega) (ev2T (by omega) (ev2T (by omega) (ev2T (by simp; omega) (Ev2.now _)))))))
  intro m
  induction m with
  | zero =>
    intro i hm hi ht
    obtain ⟨out, q1, q2, q3, q4⟩ := fin i hi ht (by rw [List.drop_eq_nil_of_le (by omega)]; simp)
    exact ⟨out, q1, q2, q3, Ev2.step (fun n k => plexusref06_With.l0_succ n k _ _ _) (ev2F (dF (by omega)) q4)⟩
  | succ m ih =>
    intro i hm hi ht
    have hlt : i < l.length := by omega
    have e2 : List.getD l (Int.toNat (i : Int)) (Int.ofNat 0) = l[i] := by
      rw [Int.toNat_natCast, List.getD_eq_getElem?_getD, List.getElem?_eq_getElem hlt]; rfl
    by_cases hb : l[i] ≤ b
    · obtain ⟨out, q1, q2, q3, q4⟩ := ih (i + 1) (by omega) (by omega) (fun x hx => by
        rw [List.take_succ_eq_append_getElem hlt] at hx
        rcases List.mem_append.1 hx with q | q
        · exact ht x q
        · rw [List.mem_singleton.1 q]; exact hb)
      refine ⟨out, q1, q2, q3, Ev2.step (fun n k => plexusref06_With.l0_succ n k _ _ _) (ev2T (dT (by omega)) (ev2T (by omega) (ev2T (by omega) ?_)))⟩
      rw [e2, inc64 (by omega)]
      exact ev2T (dT hb) q4
    · obtain ⟨out, q1, q2, q3, q4⟩ := fin i hi ht (fun x hx => by
        have hs' : (l.take i ++ l.drop i).Pairwise (· ≤ ·) := by rw [List.take_append_drop]; exact hs
        have h3 := (List.pairwise_append.1 hs').2.1
        rw [List.drop_eq_getElem_cons hlt, List.pairwise_cons] at h3
        rw [List.drop_eq_getElem_cons hlt] at hx
        rcases List.mem_cons.1 hx with q | q
        · omega
        · have := h3.1 x q; omega)
      refine ⟨out, q1, q2, q3, Ev2.step (fun n k => plexusref06_With.l0_succ n k _ _ _) (ev2T (dT (by omega)) (ev2T (by omega) (ev2T (by omega) ?_)))⟩
      rw [e2]
      exact ev2F (dF hb) q4
theorem with_f {l : List Int} (hs : Asc l) (b : Int) (hl : l.length ≤ 1000) : ∃ out, Asc out ∧ out.length = l.length + 1 ∧ (∀ x ∈ out, x = b ∨ x ∈ l) ∧ Ev (fun k => plexusref06_With.m k l b) out := by
  obtain ⟨out, q1, q2, q3, q4⟩ := with_l0 hs b hl l.length 0 (by omega) (by omega) (by simp)
  exact ⟨out, q1, q2, q3, evX (fun k => plexusref06_With.m_eq k _ _) q4.diag⟩
theorem sorted_l0 {l : List Int} (hl : l.length ≤ 900) : ∀ (m i : Nat) (o : List Int), l.length - i = m → i ≤ l.length → Asc o → o.length = i → (∀ x ∈ o, x ∈ l) →
    ∃ out, Asc out ∧ out.length = l.length ∧ (∀ x ∈ out, x ∈ l) ∧ Ev2 (fun n k => plexusref06_Sorted.l0 n k l (i : Int) o) out
  | 0, i, o, hm, hi, h1, h2, h3 => ⟨o, h1, by omega, h3, Ev2.step (fun n k => plexusref06_Sorted.l0_succ n k _ _ _) (ev2F (dF (by omega)) (Ev2.now _))⟩
  | m + 1, i, o, hm, hi, h1, h2, h3 => by
    have hlt : i < l.length := by omega
    have e2 : List.getD l (Int.toNat (i : Int)) (Int.ofNat 0) = l[i] := by
      rw [Int.toNat_natCast, List.getD_eq_getElem?_getD, List.getElem?_eq_getElem hlt]; rfl
    obtain ⟨o2, p1, p2, p3, p4⟩ := with_f h1 l[i] (by omega)
    obtain ⟨out, q1, q2, q3, q4⟩ := sorted_l0 hl m (i + 1) o2 (by omega) (by omega) p1 (by omega) (fun x hx => by
      rcases p3 x hx with q | q
      · rw [q]; exact List.getElem_mem hlt
      · exact h3 x q)
    refine ⟨out, q1, q2, q3, Ev2.step (fun n k => plexusref06_Sorted.l0_succ n k _ _ _) (ev2T (dT (by omega)) (ev2T (by omega) (ev2T (by omega) ?_)))⟩
    rw [e2, inc64 (by omega)]
    exact Ev2.bind p4 q4
theorem sorted_f {l : List Int} (hl : l.length ≤ 900) : ∃ out, Asc out ∧ out.length = l.length ∧ (∀ x ∈ out, x ∈ l) ∧ Ev (fun k => plexusref06_Sorted.m k l) out := by
  obtain ⟨out, q1, q2, q3, q4⟩ := sorted_l0 hl l.length 0 [] (by omega) (by omega) List.Pairwise.nil rfl (by simp)
  exact ⟨out, q1, q2, q3, evX (fun k => plexusref06_Sorted.m_eq k _) q4.diag⟩
structure MadeOK (v : Nat) (x : Int × List Int) : Prop where
  pts : x.1 = v
  len : x.2.length ≤ 10
  asc : Asc x.2
  pb : ∀ b ∈ x.2, PB v b
section
variable {v : Nat} (hv : v ≤ 7) (h1 : 1 ≤ v) {r : Int} (hr : IntKind.wrap IntKind.i64 (1 + Go.Vx.divF BinOp.rem IntKind.i64 r 7) = (v : Int))
include hv h1 hr
theorem lim_j0 {l : List Int} (hl : l.length ≤ 500) (hp : ∀ b ∈ l, PB v b) : ∃ x, MadeOK v x ∧ Ev (fun k => plexusref06_Limited.j0 k 7 r l) x := by
  by_cases h : 10 < l.length
  · obtain ⟨out, q1, q2, q3, q4⟩ := sorted_f (l := l.take 10) (by simp; omega)
    refine ⟨(v, out), ⟨rfl, by rw [q2]; simp; omega, q1, fun b hb => hp b (List.mem_of_mem_take (q3 b hb))⟩, evX (fun k => plexusref06_Limited.j0_eq k _ _ _) ?_⟩
    rw [hr]
    exact evT (dT (by omega)) (evT (by omega) (Ev.bind q4 (Ev.now _)))
  · obtain ⟨out, q1, q2, q3, q4⟩ := sorted_f (l := l) (by omega)
    refine ⟨(v, out), ⟨rfl, by rw [q2]; show l.length ≤ 10; omega, q1, fun b hb => hp b (q3 b hb)⟩, evX (fun k => plexusref06_Limited.j0_eq k _ _ _) ?_⟩
    rw [hr]
    exact evF (dF (by omega)) (Ev.bind q4 (Ev.now _))
theorem app_PB {l : List Int} {b : Int} (hp : ∀ b ∈ l, PB v b) (hb : PB v b) : ∀ c ∈ l ++ [b], PB v c := fun c hc => by
  rcases List.mem_append.1 hc with q | q
  · exact hp c q
  · rw [List.mem_singleton.1 q]; exact hb
theorem lim_l0 (a : Int) : ∀ (m i : Nat) (l : List Int), v - i = m → i ≤ v → l.length = i → (∀ b ∈ l, PB v b) → ∃ x, MadeOK v x ∧ Ev2 (fun n k => plexusref06_Limited.l0 n k 7 r a (i : Int) l) x
  | 0, i, l, hm, hi, hl, hp => by
    obtain ⟨x, q1, q2⟩ := lim_j0 hv h1 hr (l := l) (by omega) hp
    refine ⟨x, q1, Ev2.step (fun n k => plexusref06_Limited.l0_succ n k _ _ _ _ _) ?_⟩
    rw [hr]
    exact ev2F (dF (by omega)) (Ev2.of q2)
  | m + 1, i, l, hm, hi, hl, hp => by
    obtain ⟨t, ht, h⟩ := turned_f (IntKind.wrap IntKind.u64 (↑(BitVec.toNat (BitVec.ofInt (IntKind.bits IntKind.u64) (IntKind.wrap IntKind.u64 a) &&& BitVec.ofInt (IntKind.bits IntKind.u64) (IntKind.wrap IntKind.u64 (Go.Vx.shF BinOp.shl IntKind.u64 1 (IntKind.wrap IntKind.u64 (v : Int)) - 1)))) : Int)) (v := v) (t := i) (by omega) h1 (by omega)
    obtain ⟨x, q1, q2⟩ := lim_l0 a m (i + 1) (l ++ [t]) (by omega) (by omega) (by simp; omega) (app_PB hv h1 hr hp ht)
    refine ⟨x, q1, Ev2.step (fun n k => plexusref06_Limited.l0_succ n k _ _ _ _ _) ?_⟩
    rw [hr]
    refine ev2T (dT (by omega)) (Ev2.bind h (ev2T (by simp; omega) ?_))
    rw [inc64 (by omega)]
    exact q2
theorem lim_l1 : ∀ (m i : Nat) (l : List Int), v - i = m → i ≤ v → l.length ≤ 10 * i → (∀ b ∈ l, PB v b) → ∃ x, MadeOK v x ∧ Ev2 (fun n k => plexusref06_Limited.l1 n k 7 r (i : Int) l) x
  | 0, i, l, hm, hi, hl, hp => by
    obtain ⟨x, q1, q2⟩ := lim_j0 hv h1 hr (l := l) (by omega) hp
    refine ⟨x, q1, Ev2.step (fun n k => plexusref06_Limited.l1_succ n k _ _ _ _) ?_⟩
    rw [hr]
    exact ev2F (dF (by omega)) (Ev2.of q2)
  | m + 1, i, l, hm, hi, hl, hp => by
    have inner : ∀ (p j : Nat) (o : List Int), i - j = p → j ≤ i → o.length ≤ 10 * i + j → (∀ b ∈ o, PB v b) → ∃ x, MadeOK v x ∧ ∃ K, ∀ n2 n1 k, K ≤ n2 → K ≤ n1 → K ≤ k → plexusref06_Limited.l2 n2 k n1 7 r (i : Int) (j : Int) o = some x := by
      intro p
      induction p with
      | zero =>
        intro j o hj hj2 ho hpo
        obtain ⟨x, q1, K, q2⟩ := lim_l1 m (i + 1) o (by omega) (by omega) (by omega) hpo
        refine ⟨x, q1, K + 1, fun n2 n1 k a b c => ?_⟩
        obtain ⟨n2, rfl⟩ : ∃ z, n2 = z + 1 := ⟨n2 - 1, by omega⟩
        rw [plexusref06_Limited.l2_succ, if_neg (dF (by omega)), inc64 (by omega)]
        exact q2 n1 k (by omega) (by omega)
      | succ p ih =>
        intro j o hj hj2 ho hpo
        obtain ⟨x, q1, K, q2⟩ := ih (j + 1) _ (by omega) (by omega) (by rw [List.length_append]; show o.length + 1 ≤ _; omega) (app_PB hv h1 hr hpo (or_PB (v := v) (by omega) (shl_PB (v := v) (j := i) (by omega) (by omega)) (shl_PB (v := v) (j := j) (by omega) (by omega))))
        refine ⟨x, q1, K + 1, fun n2 n1 k a b c => ?_⟩
        obtain ⟨n2, rfl⟩ : ∃ z, n2 = z + 1 := ⟨n2 - 1, by omega⟩
        rw [plexusref06_Limited.l2_succ, if_pos (dT (by omega)), if_neg (by rw [u64_wrap]; omega), if_neg (by rw [u64_wrap]; omega), if_pos (by simp; omega), inc64 (by omega)]
        exact q2 n2 n1 k (by omega) (by omega) (by omega)
    obtain ⟨x, q1, K, q2⟩ := inner i 0 l (by omega) (by omega) (by omega) hp
    refine ⟨x, q1, Ev2.step (f := fun n k => plexusref06_Limited.l2 k k n 7 r (i : Int) 0 l) (fun n k => ?_) ⟨K, fun n k a b => q2 k n k b a b⟩⟩
    rw [plexusref06_Limited.l1_succ, hr, if_pos (dT (by omega))]
theorem lim_l3 : ∀ (m i : Nat) (l : List Int), 7 - i = m → i ≤ 7 → l.length = i → (∀ b ∈ l, PB v b) → ∃ x, MadeOK v x ∧ Ev2 (fun n k => plexusref06_Limited.l3 n k 7 r (i : Int) l) x
  | 0, i, l, hm, hi, hl, hp => by
    obtain ⟨x, q1, q2⟩ := lim_j0 hv h1 hr (l := l) (by omega) hp
    refine ⟨x, q1, Ev2.step (fun n k => plexusref06_Limited.l3_succ n k _ _ _ _) ?_⟩
    exact ev2F (dF (by omega)) (Ev2.of q2)
  | m + 1, i, l, hm, hi, hl, hp => by
    obtain ⟨t, ht, h⟩ := turned_f 11 (v := 7) (t := i) (by omega) (by omega) (by omega)
    obtain ⟨x, q1, q2⟩ := lim_l3 m (i + 1) (l ++ [_]) (by omega) (by omega) (by simp; omega) (app_PB hv h1 hr hp (and_PB (v := v) (by omega) t))
    refine ⟨x, q1, Ev2.step (fun n k => plexusref06_Limited.l3_succ n k _ _ _ _) ?_⟩
    rw [hr]
    refine ev2T (dT (by omega)) (Ev2.bind h (ev2T (by simp; omega) ?_))
    rw [inc64 (by omega)]
    exact q2
theorem four64 {i : Nat} (h : i < 1000) : IntKind.wrap IntKind.i64 (4 + (i : Int)) = ((4 + i : Nat) : Int) := by rw [wrap_i64', w64 (by omega) (by omega)]; omega
theorem lim_l4 {a0 : List Int} (ha : ∀ x ∈ a0, BY x) (a : Int) {c : Int} {q : Nat} (hq : q ≤ 10) (hc : IntKind.wrap IntKind.i64 (1 + Go.Vx.divF BinOp.rem IntKind.i64 c 10) = (q : Int)) : ∀ (m i : Nat) (l : List Int), q - i = m → i ≤ q → l.length ≤ i → (∀ b ∈ l, PB v b) → ∃ x, MadeOK v x ∧ Ev2 (fun n k => plexusref06_Limited.l4 n k a0 7 r a c (i : Int) l) x
  | 0, i, l, hm, hi, hl, hp => by
    obtain ⟨x, q1, q2⟩ := lim_j0 hv h1 hr (l := l) (by omega) hp
    refine ⟨x, q1, Ev2.step (fun n k => plexusref06_Limited.l4_succ n k _ _ _ _ _ _ _) ?_⟩
    rw [hc]
    exact ev2F (dF (by omega)) (Ev2.of q2)
  | m + 1, i, l, hm, hi, hl, hp => by
    obtain ⟨b, hb, hat⟩ := at_f ha (i := 4 + i)
    obtain ⟨x, q1, q2⟩ := lim_l4 ha a hq hc m (i + 1) (l ++ [_]) (by omega) (by omega) (by simp; omega) (app_PB hv h1 hr hp (shr_PB (v := v) (and_PB (v := v) (by omega) (IntKind.wrap IntKind.u64 a)) (IntKind.wrap IntKind.u64 (Go.Vx.divF BinOp.rem IntKind.i64 b 2))))
    refine ⟨x, q1, Ev2.step (fun n k => plexusref06_Limited.l4_succ n k _ _ _ _ _ _ _) ?_⟩
    rw [hc, hr, four64 hv h1 hr (by omega)]
    refine ev2T (dT (by omega)) (Ev2.bind ⟨0, fun k _ => hat k⟩ (ev2F (by rw [u64_wrap]; omega) (ev2T (by simp; omega) ?_)))
    rw [inc64 (by omega)]
    exact q2
theorem lim_l5 {a0 : List Int} (ha : ∀ x ∈ a0, BY x) {c : Int} {q : Nat} (hq : q ≤ 10) (hc : IntKind.wrap IntKind.i64 (1 + Go.Vx.divF BinOp.rem IntKind.i64 c 10) = (q : Int)) : ∀ (m i : Nat) (l : List Int), q - i = m → i ≤ q → l.length ≤ i → (∀ b ∈ l, PB v b) → ∃ x, MadeOK v x ∧ Ev2 (fun n k => plexusref06_Limited.l5 n k a0 7 r c (i : Int) l) x
  | 0, i, l, hm, hi, hl, hp => by
    obtain ⟨x, q1, q2⟩ := lim_j0 hv h1 hr (l := l) (by omega) hp
    refine ⟨x, q1, Ev2.step (fun n k => plexusref06_Limited.l5_succ n k _ _ _ _ _ _) ?_⟩
    rw [hc]
    exact ev2F (dF (by omega)) (Ev2.of q2)
  | m + 1, i, l, hm, hi, hl, hp => by
    obtain ⟨b, hb, hat⟩ := at_f ha (i := 4 + i)
    have hand := and_PB (v := v) (by omega) (IntKind.wrap IntKind.u64 b)
    obtain ⟨z, hz⟩ := size_f (IntKind.wrap IntKind.u64 (↑(BitVec.toNat (BitVec.ofInt (IntKind.bits IntKind.u64) (IntKind.wrap IntKind.u64 b) &&& BitVec.ofInt (IntKind.bits IntKind.u64) (IntKind.wrap IntKind.u64 (Go.Vx.shF BinOp.shl IntKind.u64 1 (IntKind.wrap IntKind.u64 (v : Int)) - 1)))) : Int))
    by_cases h3 : z = 3
    · obtain ⟨x, q1, q2⟩ := lim_l5 ha hq hc m (i + 1) (l ++ [_]) (by omega) (by omega) (by simp; omega) (app_PB hv h1 hr hp hand)
      refine ⟨x, q1, Ev2.step (fun n k => plexusref06_Limited.l5_succ n k _ _ _ _ _ _) ?_⟩
      rw [hc, hr, four64 hv h1 hr (by omega)]
      refine ev2T (dT (by omega)) (Ev2.bind ⟨0, fun k _ => hat k⟩ (Ev2.bind hz (ev2T (bT h3) (ev2T (by simp; omega) ?_))))
      rw [inc64 (by omega)]
      exact q2
    · obtain ⟨x, q1, q2⟩ := lim_l5 ha hq hc m (i + 1) l (by omega) (by omega) (by omega) hp
      refine ⟨x, q1, Ev2.step (fun n k => plexusref06_Limited.l5_succ n k _ _ _ _ _ _) ?_⟩
      rw [hc, hr, four64 hv h1 hr (by omega)]
      refine ev2T (dT (by omega)) (Ev2.bind ⟨0, fun k _ => hat k⟩ (Ev2.bind hz (ev2F (bF h3) ?_)))
      rw [inc64 (by omega)]
      exact q2
theorem lim_l6 {a0 : List Int} (ha : ∀ x ∈ a0, BY x) {c : Int} {q : Nat} (hq : q ≤ 10) (hc : IntKind.wrap IntKind.i64 (1 + Go.Vx.divF BinOp.rem IntKind.i64 c 10) = (q : Int)) : ∀ (m i : Nat) (l : List Int), q - i = m → i ≤ q → l.length ≤ i → (∀ b ∈ l, PB v b) → ∃ x, MadeOK v x ∧ Ev2 (fun n k => plexusref06_Limited.l6 n k a0 7 r c (i : Int) l) x
  | 0, i, l, hm, hi, hl, hp => by
    obtain ⟨x, q1, q2⟩ := lim_j0 hv h1 hr (l := l) (by omega) hp
    refine ⟨x, q1, Ev2.step (fun n k => plexusref06_Limited.l6_succ n k _ _ _ _ _ _) ?_⟩
    rw [hc]
    exact ev2F (dF (by omega)) (Ev2.of q2)
  | m + 1, i, l, hm, hi, hl, hp => by
    obtain ⟨b, hb, hat⟩ := at_f ha (i := 4 + i)
    have hand := and_PB (v := v) (by omega) (IntKind.wrap IntKind.u64 b)
    obtain ⟨x, q1, q2⟩ := lim_l6 ha hq hc m (i + 1) (l ++ [_]) (by omega) (by omega) (by simp; omega) (app_PB hv h1 hr hp hand)
    refine ⟨x, q1, Ev2.step (fun n k => plexusref06_Limited.l6_succ n k _ _ _ _ _ _) ?_⟩
    rw [hc, hr, four64 hv h1 hr (by omega)]
    refine ev2T (dT (by omega)) (Ev2.bind ⟨0, fun k _ => hat k⟩ (ev2T (by simp; omega) ?_))
    rw [inc64 (by omega)]
    exact q2
end
theorem evdiag {α : Type} {P : α → Prop} {g : Nat → Nat → Option α} (h : ∃ x, P x ∧ Ev2 g x) : ∃ x, P x ∧ Ev (fun k => g k k) x := by
  obtain ⟨x, h1, h2⟩ := h
  exact ⟨x, h1, h2.diag⟩
theorem made_f {a0 : List Int} (ha : ∀ x ∈ a0, BY x) : ∃ v x, 1 ≤ v ∧ v ≤ 7 ∧ MadeOK v x ∧ Ev (fun k => plexusref06_Made.m k a0) x := by
  obtain ⟨r0, b0, e0⟩ := at_f ha (i := 0)
  obtain ⟨r1, b1, e1⟩ := at_f ha (i := 1)
  obtain ⟨r2, b2, e2⟩ := at_f ha (i := 2)
  obtain ⟨r3, b3, e3⟩ := at_f ha (i := 3)
  obtain ⟨c1, rfl⟩ := Int.eq_ofNat_of_zero_le b1.1
  obtain ⟨c3, rfl⟩ := Int.eq_ofNat_of_zero_le b3.1
  have h1 := b1.2
  have h3 := b3.2
  have hr : IntKind.wrap IntKind.i64 (1 + Go.Vx.divF BinOp.rem IntKind.i64 ((c1 : Nat) : Int) 7) = ((1 + c1 % 7 : Nat) : Int) := by
    rw [show (7 : Int) = ((7 : Nat) : Int) from rfl, rem_range, wrap_i64', w64 (by omega) (by omega)]; omega
  have hc : IntKind.wrap IntKind.i64 (1 + Go.Vx.divF BinOp.rem IntKind.i64 ((c3 : Nat) : Int) 10) = ((1 + c3 % 10 : Nat) : Int) := by
    rw [show (10 : Int) = ((10 : Nat) : Int) from rfl, rem_range, wrap_i64', w64 (by omega) (by omega)]; omega
  have hv7 : 1 + c1 % 7 ≤ 7 := by omega
  have hv1 : 1 ≤ 1 + c1 % 7 := by omega
  generalize 1 + c1 % 7 = v at hr hv7 hv1
  have hq : 1 + c3 % 10 ≤ 10 := by omega
  generalize 1 + c3 % 10 = q at hc hq
  have j1 : ∀ z : Bool, ∃ x, MadeOK v x ∧ Ev (fun k => plexusref06_Limited.j1 k a0 7 r0 ((c1 : Nat) : Int) r2 ((c3 : Nat) : Int) z) x := fun z => by
    have go : ∀ (g : Nat → Option (Int × List Int)), (∀ k, plexusref06_Limited.j1 k a0 7 r0 ((c1 : Nat) : Int) r2 ((c3 : Nat) : Int) z = g k) → (∃ x, MadeOK v x ∧ Ev g x) → ∃ x, MadeOK v x ∧ Ev (fun k => plexusref06_Limited.j1 k a0 7 r0 ((c1 : Nat) : Int) r2 ((c3 : Nat) : Int) z) x := fun g e h => by
      obtain ⟨x, p1, p2⟩ := h
      exact ⟨x, p1, evX e p2⟩
    refine go _ (fun k => plexusref06_Limited.j1_eq k _ _ _ _ _ _ _) ?_
    have pick : ∀ {c : Prop} [Decidable c] {f g : Nat → Option (Int × List Int)}, (∃ x, MadeOK v x ∧ Ev f x) → (∃ x, MadeOK v x ∧ Ev g x) → ∃ x, MadeOK v x ∧ Ev (fun k => if c then f k else g k) x := fun {c} _ {f g} hf hg => by
      by_cases h : c
      · obtain ⟨x, p1, p2⟩ := hf; exact ⟨x, p1, evT h p2⟩
      · obtain ⟨x, p1, p2⟩ := hg; exact ⟨x, p1, evF h p2⟩
    refine pick ?_ (pick ?_ (pick ?_ (pick ?_ (pick ?_ ?_))))
    · exact evdiag (lim_l0 hv7 hv1 hr r2 v 0 [] (by omega) (by omega) rfl (by simp))
    · exact evdiag (lim_l1 hv7 hv1 hr v 0 [] (by omega) (by omega) (by simp) (by simp))
    · exact evdiag (lim_l3 hv7 hv1 hr 7 0 [] (by omega) (by omega) rfl (by simp))
    · exact evdiag (lim_l4 hv7 hv1 hr ha r2 hq hc q 0 [] (by omega) (by omega) (by simp) (by simp))
    · exact evdiag (lim_l5 hv7 hv1 hr ha hq hc q 0 [] (by omega) (by omega) (by simp) (by simp))
    · exact evdiag (lim_l6 hv7 hv1 hr ha hq hc q 0 [] (by omega) (by omega) (by simp) (by simp))
  have lim : ∃ x, MadeOK v x ∧ Ev (fun k => plexusref06_Limited.m k a0 7) x := by
    by_cases h0 : Go.Vx.divF BinOp.rem IntKind.i64 r0 8 = 0
    · obtain ⟨x, p1, p2⟩ := j1 (Go.Vx.divF BinOp.rem IntKind.i64 r0 8 == 0)
      refine ⟨x, p1, evX (fun k => plexusref06_Limited.m_eq k _ _) ?_⟩
      refine Ev.bind ⟨0, fun k _ => e0 k⟩ (Ev.bind ⟨0, fun k _ => e1 k⟩ (evF (by decide) ?_))
      rw [hr]
      exact evF (by rw [u64_wrap]; omega) (Ev.bind ⟨0, fun k _ => e2 k⟩ (Ev.bind ⟨0, fun k _ => e3 k⟩ (evT (bT h0) p2)))
    · obtain ⟨x, p1, p2⟩ := j1 (Go.Vx.divF BinOp.rem IntKind.i64 r0 8 == 1)
      refine ⟨x, p1, evX (fun k => plexusref06_Limited.m_eq k _ _) ?_⟩
      refine Ev.bind ⟨0, fun k _ => e0 k⟩ (Ev.bind ⟨0, fun k _ => e1 k⟩ (evF (by decide) ?_))
      rw [hr]
      exact evF (by rw [u64_wrap]; omega) (Ev.bind ⟨0, fun k _ => e2 k⟩ (Ev.bind ⟨0, fun k _ => e3 k⟩ (evF (bF h0) p2)))
  obtain ⟨x, p1, p2⟩ := lim
  exact ⟨v, x, hv1, hv7, p1, evX (fun k => plexusref06_Made.m_eq k _) (Ev.bind p2 (Ev.now _))⟩
end Go.Proofs.YtchpkglnmpmcmaaQ
namespace Go.Proofs.YtchpkglnmpmcmaaQ
set_option linter.unusedVariables false
set_option linter.unusedSimpArgs false
open Go Go.RowKit Go.Proofs.Ytchpkglnmpmcmaa.P47 Go.Proofs.Ytchpkglnmpmcmaa.V47 Go.Proofs.YtchpkglnmpmcmaaW.PrintWords Go.Proofs.YtchpkglnmpmcmaaW.PrintLast Go.Proofs.YtchpkglnmpmcmaaW.PrintMore
theorem lvs_out (v : Int) (l : List Int) (s : Int) {i : Nat} (h : l.length < i) : (lvs v l s)[i]? = none := List.getElem?_eq_none (by rw [lvs_len]; omega)
theorem lvs_v (v w : Int) (l : List Int) (s : Int) : lvs w l s = (lvs v l s).set 0 (leaf (plc w l s 0)) := by
  apply List.ext_getElem?
  intro i
  rw [List.getElem?_set]
  by_cases h0 : i = 0
  · subst h0
    rw [if_pos rfl, if_pos (by rw [lvs_len]; omega), lvs_get _ _ _ (Nat.zero_le _)]
  · rw [if_neg (Ne.symm h0)]
    by_cases h : i ≤ l.length
    · rw [lvs_get _ _ _ h, lvs_get _ _ _ h]
      unfold plc
      rw [if_neg h0, if_neg h0]
    · rw [lvs_out _ _ _ (by omega), lvs_out _ _ _ (by omega)]
theorem leaf_0 (v : Int) (l : List Int) (s : Int) : leaf (plc v l s 0) = wd [key s 0, v, (l.length : Int)] := by
  unfold leaf plc
  rw [if_pos rfl]; simp
theorem leaf_1 (v : Int) (l : List Int) (s : Int) (j : Nat) : leaf (plc v l s (j + 1)) = wd [key s ((j + 1 : Nat) : Int), wrap64 (l.getD j 0)] := by
  have e : plc v l s (j + 1) = (((j + 1 : Nat) : Int), wrap64 (l.getD j 0), 0, key s ((j + 1 : Nat) : Int), []) := by
    unfold plc; rw [if_neg (by omega)]; rfl
  rw [e]
  unfold leaf
  exact if_neg (by show ¬ (((j + 1 : Nat) : Int) = 0); omega)
theorem lvs_b (v : Int) (l : List Int) (s : Int) (j : Nat) (x : Int) : lvs v (l.set j x) s = (lvs v l s).set (j + 1) (leaf (plc v (l.set j x) s (j + 1))) := by
  have hlen : (l.set j x).length = l.length := List.length_set
  apply List.ext_getElem?
  intro i
  rw [List.getElem?_set]
  by_cases h : i ≤ l.length
  · rw [lvs_get v (l.set j x) s (by omega), lvs_get v l s h]
    by_cases hj : j + 1 = i
    · rw [if_pos hj, if_pos (by rw [lvs_len]; omega), hj]
    · rw [if_neg hj]
      unfold plc
      by_cases h0 : i = 0
      · rw [if_pos h0, if_pos h0, hlen]
      · rw [if_neg h0, if_neg h0, List.getD_eq_getElem?_getD, List.getD_eq_getElem?_getD, List.getElem?_set_ne (by omega)]
  · rw [lvs_out v (l.set j x) s (by omega), lvs_out v l s (by omega)]
    by_cases hj : j + 1 = i
    · rw [if_pos hj, if_neg (by rw [lvs_len]; omega)]
    · rw [if_neg hj]
theorem lvs_getD (v : Int) (l : List Int) (s : Int) {i : Nat} (h : i ≤ l.length) : (lvs v l s).getD i 0 = leaf (plc v l s i) := by
  rw [List.getD_eq_getElem?_getD, lvs_get v l s h]; rfl
theorem cmt_v {v w : Int} (hv : S v) (hw : S w) (l : List Int) (s : Int) : cmt w l s = cmt v l s ↔ w = v := by
  have h := (root_set 0 (leaf (plc w l s 0)) (lvs v l s) 0 (by rw [lvs_len]; omega) U0 (lvs_U v l s) (leaf_U _)).1
  rw [← lvs_v v w l s, lvs_getD v l s (Nat.zero_le _), leaf_0, leaf_0, wd_3 (.inr (.inl ⟨rfl, rfl⟩)), S_inj hw hv] at h
  unfold cmt
  rw [eq_comm, h]; simp
theorem cmt_b {v : Int} (l : List Int) (s : Int) {j : Nat} (hj : j < l.length) {x : Int} (hx : U x) (hl : ∀ y ∈ l, U y) : cmt v (l.set j x) s = cmt v l s ↔ x = l.getD j 0 := by
  have h := (root_set 0 (leaf (plc v (l.set j x) s (j + 1))) (lvs v l s) (j + 1) (by rw [lvs_len]; omega) U0 (lvs_U v l s) (leaf_U _)).1
  have hg : (l.set j x).getD j 0 = x := by rw [List.getD_eq_getElem?_getD, List.getElem?_set_self hj]; rfl
  have hu : U (l.getD j 0) := by
    rw [List.getD_eq_getElem?_getD, List.getElem?_eq_getElem hj]
    exact hl _ (List.getElem_mem hj)
  rw [← lvs_b v l s j x, lvs_getD v l s (by omega), leaf_1, leaf_1, hg, wd_2 (.inl rfl), wrap_w64 hx, wrap_w64 hu] at h
  unfold cmt
  rw [eq_comm, h]; simp
theorem cmt_0 (v : Int) (s : Int) : cmt v [] s = wd [key s 0, v, 0] := by
  unfold cmt
  have e : lvs v [] s = [leaf (plc v [] s 0)] := by
    unfold lvs plcs; rfl
  rw [e, root_one, leaf_0]; rfl
theorem cmt_s {v s t : Int} (hs : S s) (ht : S t) : cmt v [] s = cmt v [] t ↔ s = t := by
  rw [cmt_0, cmt_0, wd_3 (.inl ⟨rfl, rfl⟩), S_inj (key_S _ _) (key_S _ _), key_salt 0 hs ht]; simp
theorem rvalid_l0 {x : Int × List Int} (hx : 0 ≤ x.1 ∧ x.1 < 1000) (hl : x.2.length ≤ 1000) : ∀ (m i : Nat), x.2.length - i = m → i ≤ x.2.length → ∃ b, Ev2 (fun n k => plexusref06_Valid.l0 n k x (i : Int)) b
  | 0, i, hm, hi => ⟨true, Ev2.step (fun n k => plexusref06_Valid.l0_succ n k _ _) (ev2F (dF (by omega)) (Ev2.now _))⟩
  | m + 1, i, hm, hi => by
    obtain ⟨b, h⟩ := rvalid_l0 hx hl m (i + 1) (by omega) (by omega)
    by_cases h1 : Go.Vx.shF BinOp.shr IntKind.u64 (List.getD x.2 (Int.toNat (i : Int)) (Int.ofNat 0)) (IntKind.wrap IntKind.u64 x.1) = 0
    · by_cases h0 : (i : Int) > 0
      · have e : IntKind.wrap IntKind.i64 ((i : Int) - 1) = ((i - 1 : Nat) : Int) := by rw [wrap_i64', w64 (by omega) (by omega)]; omega
        by_cases h2 : List.getD x.2 (Int.toNat (IntKind.wrap IntKind.i64 ((i : Int) - 1))) (Int.ofNat 0) > List.getD x.2 (Int.toNat (i : Int)) (Int.ofNat 0)
        · refine ⟨false, Ev2.step (fun n k => plexusref06_Valid.l0_succ n k _ _) (ev2T (dT (by omega)) (ev2T (by omega) (ev2T (by omega) (ev2F (by rw [u64_wrap]; omega) (ev2F (nF h1) (ev2T (dT h0) (ev2T (by rw [e]; omega) (ev2T (by rw [e]; omega) (ev2T (by omega) (ev2T (by omega) (ev2T (dT h2) (Ev2.now _))))))))))))⟩
        · refine ⟨b, Ev2.step (fun n k => plexusref06_Valid.l0_succ n k _ _) (ev2T (dT (by omega)) (ev2T (by omega) (ev2T (by omega) (ev2F (by rw [u64_wrap]; omega) (ev2F (nF h1) (ev2T (dT h0) (ev2T (by rw [e]; omega) (ev2T (by rw [e]; omega) (ev2T (by omega) (ev2T (by omega) (ev2F (dF h2) ?_)))))))))))⟩
          rw [inc64 (by omega)]; exact h
      · refine ⟨b, Ev2.step (fun n k => plexusref06_Valid.l0_succ n k _ _) (ev2T (dT (by omega)) (ev2T (by omega) (ev2T (by omega) (ev2F (by rw [u64_wrap]; omega) (ev2F (nF h1) (ev2F (dF h0) ?_))))))⟩
        rw [inc64 (by omega)]; exact h
    · exact ⟨false, Ev2.step (fun n k => plexusref06_Valid.l0_succ n k _ _) (ev2T (dT (by omega)) (ev2T (by omega) (ev2T (by omega) (ev2F (by rw [u64_wrap]; omega) (ev2T (nT h1) (Ev2.now _))))))⟩
theorem rvalid_f (x : Int × List Int) (hl : x.2.length ≤ 1000) : ∃ b, Ev (fun k => plexusref06_Valid.m k x) b := by
  by_cases h1 : x.1 < 1
  · exact ⟨false, evX (fun k => plexusref06_Valid.m_eq k _) (evT (dT h1) (Ev.now _))⟩
  by_cases h2 : x.1 > 16
  · exact ⟨false, evX (fun k => plexusref06_Valid.m_eq k _) (evF (dF h1) (evT (dT h2) (Ev.now _)))⟩
  by_cases h3 : (x.2.length : Int) > 64
  · exact ⟨false, evX (fun k => plexusref06_Valid.m_eq k _) (evF (dF h1) (evF (dF h2) (evT (dT h3) (Ev.now _))))⟩
  obtain ⟨b, h⟩ := rvalid_l0 (x := x) (by omega) hl x.2.length 0 (by omega) (by omega)
  exact ⟨b, evX (fun k => plexusref06_Valid.m_eq k _) (evF (dF h1) (evF (dF h2) (evF (dF h3) h.diag)))⟩
end Go.Proofs.YtchpkglnmpmcmaaQ
namespace Go.Proofs.YtchpkglnmpmcmaaQ
set_option linter.unusedVariables false
set_option linter.unusedSimpArgs false
open Go Go.RowKit Go.Proofs.Ytchpkglnmpmcmaa.P47 Go.Proofs.Ytchpkglnmpmcmaa.V47 Go.Proofs.YtchpkglnmpmcmaaW.PrintWords Go.Proofs.YtchpkglnmpmcmaaW.PrintLast Go.Proofs.YtchpkglnmpmcmaaW.PrintMore
theorem less_f (k : Nat) (a b : Int) : cmp_Less_uint64.m k a b = some (decide (a < b)) := by
  rw [cmp_Less_uint64.m_eq, cmp_isNaN_uint64.m_eq]
  simp
theorem getD_get {l : List Int} {i : Nat} (h : i < l.length) : List.getD l (Int.toNat (i : Int)) (Int.ofNat 0) = l[i] := by
  rw [Int.toNat_natCast, List.getD_eq_getElem?_getD, List.getElem?_eq_getElem h]; rfl
theorem dec64 {i : Nat} (h : i < 1000000) : IntKind.wrap IntKind.i64 (((i + 1 : Nat) : Int) - 1) = (i : Int) := by rw [wrap_i64', w64 (by omega) (by omega)]; omega
theorem issorted_l0 {l : List Int} (hs : Asc l) (hl : l.length ≤ 1000) : ∀ (i : Nat), i < l.length → Ev2 (fun n k => slices_IsSorted_uint64_uint64.l0 n k l (i : Int)) true
  | 0, hi => Ev2.step (fun n k => slices_IsSorted_uint64_uint64.l0_succ n k _ _) (ev2F (dF (by omega)) (Ev2.now _))
  | i + 1, hi => by
    refine Ev2.step (fun n k => slices_IsSorted_uint64_uint64.l0_succ n k _ _) ?_
    rw [dec64 (by omega), getD_get hi, getD_get (i := i) (by omega)]
    have hle : l[i] ≤ l[i + 1] := List.pairwise_iff_getElem.1 hs i (i + 1) (by omega) hi (by omega)
    refine ev2T (dT (by omega)) (ev2T (by omega) (ev2T (by omega) (ev2T (by omega) (ev2T (by omega) (Ev2.bind (a := false) ⟨0, fun k _ => (less_f k _ _).trans (congrArg some (decide_eq_false (by omega)))⟩ (ev2F (by decide) ?_))))))
    exact issorted_l0 hs hl i (by omega)
theorem issorted_f {l : List Int} (hs : Asc l) (hl : l.length ≤ 1000) : Ev (fun k => slices_IsSorted_uint64_uint64.m k l) true := by
  refine evX (fun k => slices_IsSorted_uint64_uint64.m_eq k _) ?_
  by_cases h : l.length = 0
  · have e : IntKind.wrap IntKind.i64 ((l.length : Int) - 1) = -1 := by rw [h, wrap_i64', w64 (by omega) (by omega)]; rfl
    rw [e]
    have : Ev2 (fun n k => slices_IsSorted_uint64_uint64.l0 n k l (-1)) true := Ev2.step (fun n k => slices_IsSorted_uint64_uint64.l0_succ n k _ _) (ev2F (dF (by omega)) (Ev2.now _))
    exact this.diag
  · have e : IntKind.wrap IntKind.i64 ((l.length : Int) - 1) = ((l.length - 1 : Nat) : Int) := by rw [wrap_i64', w64 (by omega) (by omega)]; omega
    rw [e]
    exact (issorted_l0 hs hl (l.length - 1) (by omega)).diag
theorem full_f (k : Nat) {v : Nat} (hv : v ≤ 60) : incidence_full.m k (v : Int) = some ((2 ^ v - 1 : Nat) : Int) := by
  rw [incidence_full.m_eq, if_neg (by omega)]
  have e : IntKind.wrap IntKind.u64 (v : Int) = (v : Int) := by rw [u64_wrap]; omega
  have := mask_eq hv
  rw [e] at this
  rw [this]
theorem valid_f {v : Nat} (h1 : 1 ≤ v) (h7 : v ≤ 16) {l : List Int} (hl : l.length ≤ 64) (hs : Asc l) (hp : ∀ b ∈ l, PB v b) : Ev (fun k => incidence_Valid.m k ((v : Int), l)) true := by
  refine evX (fun k => incidence_Valid.m_eq k _) ?_
  refine evF (dF (by show ¬ ((v : Int) < 1); omega)) (evF (dF (by show ¬ ((v : Int) > 16); omega)) (evF (dF (by show ¬ ((l.length : Int) > 64); omega)) (Ev.bind (issorted_f (l := l) hs (by omega)) (evF (by decide) ?_))))
  by_cases h : l.length = 0
  · exact evT (bT (by show (l.length : Int) = 0; omega)) (Ev.now _)
  · refine evF (bF (by show (l.length : Int) ≠ 0; omega)) ?_
    have e : IntKind.wrap IntKind.i64 ((l.length : Int) - 1) = ((l.length - 1 : Nat) : Int) := by rw [wrap_i64', w64 (by omega) (by omega)]; omega
    rw [e, getD_get (l := l) (i := l.length - 1) (by omega)]
    have hlt2 : ((l.length - 1 : Nat) : Int) < (l.length : Int) := by omega
    refine evT (Int.natCast_nonneg _) (evT hlt2 (Ev.bind ⟨0, fun k _ => full_f k (by omega)⟩ ?_))
    have hb := (hp _ (List.getElem_mem (show l.length - 1 < l.length by omega))).2
    have h4 : ((2 ^ v : Nat) : Int) = 2 ^ v := by simp
    rw [← h4] at hb
    have hpos := Nat.two_pow_pos v
    rw [show decide (l[l.length - 1] ≤ ((2 ^ v - 1 : Nat) : Int)) = true from decide_eq_true (by generalize 2 ^ v = z at hb hpos ⊢; omega)]
    exact Ev.now _
theorem all_l0 (L : List OT) (hl : L.length ≤ 20000) : ∀ (m i : Nat), L.length - i = m → i ≤ L.length → Ev2 (fun n k => plexuslaw47_all.l0 n k L (i : Int) (L.take i)) L
  | 0, i, hm, hi => by
    refine Ev2.step (fun n k => plexuslaw47_all.l0_succ n k _ _ _) ?_
    obtain rfl : i = L.length := by omega
    rw [List.take_length]
    exact ev2F (dF (by omega)) (Ev2.now _)
  | m + 1, i, hm, hi => by
    have hlt : i < L.length := by omega
    refine Ev2.step (fun n k => plexuslaw47_all.l0_succ n k _ _ _) ?_
    have e2 : List.getD L (Int.toNat (i : Int)) (Int.ofNat 0, Int.ofNat 0, Int.ofNat 0, Int.ofNat 0, []) = L[i] := by
      rw [Int.toNat_natCast, List.getD_eq_getElem?_getD, List.getElem?_eq_getElem hlt]; rfl
    rw [inc64 (by omega), e2]
    refine ev2T (dT (by omega)) (ev2T (by omega) (ev2T (by omega) (Ev2.bind (a := L[i]) ⟨0, fun k _ => plexuslaw47_to.m_eq k _⟩ (ev2T (by simp; omega) ?_))))
    have := all_l0 L hl m (i + 1) (by omega) (by omega)
    rw [List.take_succ_eq_append_getElem hlt] at this
    exact this
theorem all_f (L : List OT) (hl : L.length ≤ 20000) : Ev (fun k => plexuslaw47_all.m k L) L := by
  refine evX (fun k => plexuslaw47_all.m_eq k _) ?_
  exact (all_l0 L hl L.length 0 (by omega) (by omega)).diag
end Go.Proofs.YtchpkglnmpmcmaaQ
namespace Go.Proofs.YtchpkglnmpmcmaaQ
set_option linter.unusedVariables false
set_option linter.unusedSimpArgs false
open Go Go.RowKit Go.Proofs.Ytchpkglnmpmcmaa.P47 Go.Proofs.Ytchpkglnmpmcmaa.V47 Go.Proofs.YtchpkglnmpmcmaaW.PrintWords Go.Proofs.YtchpkglnmpmcmaaW.PrintLast Go.Proofs.YtchpkglnmpmcmaaW.PrintMore
open Go.Vx (mget mset)
def wst (p : Bool × List (Int × Int)) (o : OT) : Bool × List (Int × Int) :=
  (if p.1 = true then true else if (mget o.1 p.2).isSome = true then (mget o.1 p.2).getD 0 != o.2.1 else false, mset o.1 o.2.1 p.2)
theorem whole_l0 {r n : Int} {L : List OT} (hl : L.length ≤ 20000) (hc : ∀ o ∈ L, Ev (fun k => private_Check.m k r n o) 0) {T : Bool} {M : List (Int × Int)} {res : (Int × List Int) × Int}
    (hfin : Ev2 (fun a k => private_Whole.l0 a k r n L T (L.length : Int) M) res) : ∀ (m i : Nat) (t : Bool) (mp : List (Int × Int)), L.length - i = m → i ≤ L.length → (L.drop i).foldl wst (t, mp) = (T, M) → Ev2 (fun a k => private_Whole.l0 a k r n L t (i : Int) mp) res
  | 0, i, t, mp, hm, hi, he => by
    obtain rfl : i = L.length := by omega
    rw [List.drop_length, List.foldl_nil] at he
    obtain ⟨rfl, rfl⟩ := Prod.mk.inj he
    exact hfin
  | m + 1, i, t, mp, hm, hi, he => by
    have hlt : i < L.length := by omega
    rw [List.drop_eq_getElem_cons hlt, List.foldl_cons] at he
    have next := whole_l0 hl hc hfin m (i + 1) _ _ (by omega) (by omega) he
    have e2 : List.getD L (Int.toNat (i : Int)) (Int.ofNat 0, Int.ofNat 0, Int.ofNat 0, Int.ofNat 0, []) = L[i] := by
      rw [Int.toNat_natCast, List.getD_eq_getElem?_getD, List.getElem?_eq_getElem hlt]; rfl
    refine Ev2.step (fun a k => private_Whole.l0_succ a k _ _ _ _ _ _) ?_
    rw [inc64 (by omega), e2]
    refine ev2T (dT (by omega)) (ev2T (by omega) (ev2T (by omega) (Ev2.bind (hc L[i] (List.getElem_mem hlt)) (ev2F (nF rfl) ?_))))
    cases t with
    | true => exact ev2T rfl next
    | false =>
      refine ev2F (by decide) ?_
      by_cases hs : (mget L[i].1 mp).isSome = true
      · refine ev2T hs ?_
        simpa [hs] using next
      · refine ev2F hs ?_
        simpa [hs] using next
theorem whole_bad {r n : Int} {L : List OT} (hl : L.length ≤ 20000) {j : Nat} (hj : j < L.length) {c : Int} (hc0 : c ≠ 0) (hcj : Ev (fun k => private_Check.m k r n L[j]) c) (hc : ∀ i (h : i < L.length), i < j → Ev (fun k => private_Check.m k r n L[i]) 0) :
    ∀ (m i : Nat) (t : Bool) (mp : List (Int × Int)), j - i = m → i ≤ j → Ev2 (fun a k => private_Whole.l0 a k r n L t (i : Int) mp) ((0, []), c)
  | 0, i, t, mp, hm, hi => by
    obtain rfl : i = j := by omega
    have e2 : List.getD L (Int.toNat (i : Int)) (Int.ofNat 0, Int.ofNat 0, Int.ofNat 0, Int.ofNat 0, []) = L[i] := by
      rw [Int.toNat_natCast, List.getD_eq_getElem?_getD, List.getElem?_eq_getElem hj]; rfl
    refine Ev2.step (fun a k => private_Whole.l0_succ a k _ _ _ _ _ _) ?_
    rw [e2]
    exact ev2T (dT (by omega)) (ev2T (by omega) (ev2T (by omega) (Ev2.bind hcj (ev2T (nT hc0) (Ev2.now _)))))
  | m + 1, i, t, mp, hm, hi => by
    have hlt : i < L.length := by omega
    have next := fun t' mp' => whole_bad hl hj hc0 hcj hc m (i + 1) t' mp' (by omega) (by omega)
    have e2 : List.getD L (Int.toNat (i : Int)) (Int.ofNat 0, Int.ofNat 0, Int.ofNat 0, Int.ofNat 0, []) = L[i] := by
      rw [Int.toNat_natCast, List.getD_eq_getElem?_getD, List.getElem?_eq_getElem hlt]; rfl
    refine Ev2.step (fun a k => private_Whole.l0_succ a k _ _ _ _ _ _) ?_
    rw [inc64 (by omega), e2]
    refine ev2T (dT (by omega)) (ev2T (by omega) (ev2T (by omega) (Ev2.bind (hc i hlt (by omega)) (ev2F (nF rfl) ?_))))
    cases t with
    | true => exact ev2T rfl (next _ _)
    | false =>
      refine ev2F (by decide) ?_
      by_cases hs : (mget L[i].1 mp).isSome = true
      · exact ev2T hs (next _ _)
      · exact ev2F hs (next _ _)
def blks (M : List (Int × Int)) (n : Nat) : List Int := (List.range n).map fun i => IntKind.wrap IntKind.u64 ((mget ((i + 1 : Nat) : Int) M).getD 0)
theorem whole_l1 {n : Nat} (hn : n ≤ 64) {M : List (Int × Int)} {b : Bool} (hv : Ev (fun k => incidence_Valid.m k ((mget 0 M).getD 0, blks M n)) b) : ∀ (m i : Nat), n - i = m → i ≤ n → Ev2 (fun a k => private_Whole.l1 a k (n : Int) M (i : Int) (blks M i)) (if b = true then (((mget 0 M).getD 0, blks M n), 0) else ((0, []), 60))
  | 0, i, hm, hi => by
    refine Ev2.step (fun a k => private_Whole.l1_succ a k _ _ _ _) ?_
    obtain rfl : i = n := by omega
    refine ev2F (dF (by omega)) (Ev2.bind hv ?_)
    cases b with
    | true => exact ev2F (by decide) (Ev2.now _)
    | false => exact ev2T (by decide) (Ev2.now _)
  | m + 1, i, hm, hi => by
    refine Ev2.step (fun a k => private_Whole.l1_succ a k _ _ _ _) ?_
    have hlen : (blks M i).length = i := by simp [blks]
    rw [inc64 (by omega)]
    refine ev2T (dT (by omega)) (ev2T (by rw [hlen]; simp; omega) ?_)
    have := whole_l1 hn hv m (i + 1) (by omega) (by omega)
    have e : blks M (i + 1) = blks M i ++ [IntKind.wrap IntKind.u64 ((mget ((i + 1 : Nat) : Int) M).getD 0)] := by
      unfold blks; rw [List.range_succ, List.map_append]; rfl
    rw [e] at this
    exact this
theorem pwhole_f {r : Int} {n : Nat} (hn : n ≤ 64) {L : List OT} (hl : L.length ≤ 20000) (hc : ∀ o ∈ L, Ev (fun k => private_Check.m k r n o) 0) {M : List (Int × Int)} (hf : L.foldl wst (false, []) = (false, M)) (hM : n < M.length) {b : Bool} (hv : Ev (fun k => incidence_Valid.m k ((mget 0 M).getD 0, blks M n)) b) :
    Ev (fun k => private_Whole.m k r n L) (if b = true then (((mget 0 M).getD 0, blks M n), 0) else ((0, []), 60)) := by
  refine evX (fun k => private_Whole.m_eq k _ _ _) (evF (dF (by omega)) (evF (dF (by omega)) ?_))
  refine (whole_l0 hl hc (T := false) (M := M) ?_ L.length 0 false [] (by omega) (by omega) hf).diag
  refine Ev2.step (fun a k => private_Whole.l0_succ a k _ _ _ _ _ _) ?_
  refine ev2F (dF (by omega)) (ev2F (by decide) (ev2F (dF (by omega)) ?_))
  exact Ev2.of (whole_l1 hn hv n 0 (by omega) (by omega)).diag
theorem pwhole_none {r : Int} {n : Nat} (hn : n ≤ 64) {L : List OT} (hl : L.length ≤ 20000) (hc : ∀ o ∈ L, Ev (fun k => private_Check.m k r n o) 0) {M : List (Int × Int)} (hf : L.foldl wst (false, []) = (false, M)) (hM : M.length ≤ n) :
    Ev (fun k => private_Whole.m k r n L) ((0, []), 4) := by
  refine evX (fun k => private_Whole.m_eq k _ _ _) (evF (dF (by omega)) (evF (dF (by omega)) ?_))
  refine (whole_l0 hl hc (T := false) (M := M) ?_ L.length 0 false [] (by omega) (by omega) hf).diag
  refine Ev2.step (fun a k => private_Whole.l0_succ a k _ _ _ _ _ _) ?_
  exact ev2F (dF (by omega)) (ev2F (by decide) (ev2T (dT (by omega)) (Ev2.now _)))
theorem pwhole_bad {r : Int} {n : Nat} (hn : n ≤ 64) {L : List OT} (hl : L.length ≤ 20000) {j : Nat} (hj : j < L.length) {c : Int} (hc0 : c ≠ 0) (hcj : Ev (fun k => private_Check.m k r n L[j]) c) (hc : ∀ i (h : i < L.length), i < j → Ev (fun k => private_Check.m k r n L[i]) 0) :
    Ev (fun k => private_Whole.m k r n L) ((0, []), c) := by
  refine evX (fun k => private_Whole.m_eq k _ _ _) (evF (dF (by omega)) (evF (dF (by omega)) ?_))
  exact (whole_bad hl hj hc0 hcj hc j 0 false [] (by omega) (by omega)).diag
theorem whole_of {r n : Int} {L : List OT} (hl : L.length ≤ 20000) {g : (Int × List Int) × Int} (h : Ev (fun k => private_Whole.m k r n L) g) : Ev (fun k => plexuslaw47_whole.m k r n L) g := by
  refine evX (fun k => plexuslaw47_whole.m_eq k _ _ _) ?_
  exact Ev.bind (all_f L hl) (Ev.bind h (Ev.now _))
end Go.Proofs.YtchpkglnmpmcmaaQ
namespace Go.Proofs.YtchpkglnmpmcmaaQ
set_option linter.unusedVariables false
set_option linter.unusedSimpArgs false
open Go Go.RowKit Go.Proofs.Ytchpkglnmpmcmaa.V47 Go.Proofs.YtchpkglnmpmcmaaW.PrintWords Go.Proofs.YtchpkglnmpmcmaaW.PrintLast Go.Proofs.YtchpkglnmpmcmaaW.PrintMore
theorem r3step (k : Nat) {h w : Nat} (hh : h < 2 ^ 64) (hw : w < 2 ^ 64) : plexusref03_Step.m k (h : Int) (w : Int) = some ((stepN h w : Nat) : Int) := by
  rw [plexusref03_Step.m_eq]
  have ht : (h ^^^ w) * 11400714819323198485 % 2 ^ 64 < 2 ^ 64 := Nat.mod_lt _ (by decide)
  have e1 : IntKind.wrap IntKind.u64 (IntKind.wrap IntKind.u64 (↑(BitVec.toNat (BitVec.ofInt (IntKind.bits IntKind.u64) (h : Int) ^^^ BitVec.ofInt (IntKind.bits IntKind.u64) (w : Int))) : Int) * 11400714819323198485) = (((h ^^^ w) * 11400714819323198485 % 2 ^ 64 : Nat) : Int) := by
    show IntKind.u64.wrap (Go.bits .xor .u64 (h : Int) (w : Int) * 11400714819323198485) = _
    rw [xor64 hh hw, show ((11400714819323198485 : Int)) = ((11400714819323198485 : Nat) : Int) from rfl, mul64]
  rw [e1]
  have key : ∀ t : Nat, t < 2 ^ 64 → (some (IntKind.wrap IntKind.u64 (IntKind.wrap IntKind.u64 (↑(BitVec.toNat (BitVec.ofInt (IntKind.bits IntKind.u64) (t : Int) ^^^ BitVec.ofInt (IntKind.bits IntKind.u64) (Go.Vx.shF BinOp.shr IntKind.u64 (t : Int) 29))) : Int) * 13787848793156543929)) : Option Int) = some ((s29 t * 13787848793156543929 % 2 ^ 64 : Nat) : Int) := by
    intro t ht
    have e2 : Go.Vx.shF BinOp.shr IntKind.u64 (t : Int) 29 = ((t >>> 29 : Nat) : Int) := by
      show Int.fdiv (t : Int) (2 ^ min (29 : Int).toNat IntKind.u64.bits) = _
      rw [show min (29 : Int).toNat IntKind.u64.bits = 29 from rfl, Int.fdiv_eq_ediv_of_nonneg _ (by decide), Nat.shiftRight_eq_div_pow]
      omega
    rw [e2]
    show some (IntKind.u64.wrap (Go.bits .xor .u64 (t : Int) ((t >>> 29 : Nat) : Int) * 13787848793156543929)) = _
    rw [xor64 ht (sr_lt ht 29), show ((13787848793156543929 : Int)) = ((13787848793156543929 : Nat) : Int) from rfl, mul64]
    rfl
  exact key _ ht
theorem dstepm (k : Nat) {h w : Nat} (hh : h < 2 ^ 64) (hw : w < 2 ^ 64) : seal_digest_step.m k (h : Int) (w : Int) = some ((stepN h w : Nat) : Int) := by
  rw [seal_digest_step.m_eq]
  have ht : (h ^^^ w) * 11400714819323198485 % 2 ^ 64 < 2 ^ 64 := Nat.mod_lt _ (by decide)
  have e1 : IntKind.wrap IntKind.u64 (IntKind.wrap IntKind.u64 (↑(BitVec.toNat (BitVec.ofInt (IntKind.bits IntKind.u64) (h : Int) ^^^ BitVec.ofInt (IntKind.bits IntKind.u64) (w : Int))) : Int) * 11400714819323198485) = (((h ^^^ w) * 11400714819323198485 % 2 ^ 64 : Nat) : Int) := by
    show IntKind.u64.wrap (Go.bits .xor .u64 (h : Int) (w : Int) * 11400714819323198485) = _
    rw [xor64 hh hw, show ((11400714819323198485 : Int)) = ((11400714819323198485 : Nat) : Int) from rfl, mul64]
  rw [e1]
  have key : ∀ t : Nat, t < 2 ^ 64 → (some (IntKind.wrap IntKind.u64 (IntKind.wrap IntKind.u64 (↑(BitVec.toNat (BitVec.ofInt (IntKind.bits IntKind.u64) (t : Int) ^^^ BitVec.ofInt (IntKind.bits IntKind.u64) (Go.Vx.shF BinOp.shr IntKind.u64 (t : Int) 29))) : Int) * 13787848793156543929)) : Option Int) = some ((s29 t * 13787848793156543929 % 2 ^ 64 : Nat) : Int) := by
    intro t ht
    have e2 : Go.Vx.shF BinOp.shr IntKind.u64 (t : Int) 29 = ((t >>> 29 : Nat) : Int) := by
      show Int.fdiv (t : Int) (2 ^ min (29 : Int).toNat IntKind.u64.bits) = _
      rw [show min (29 : Int).toNat IntKind.u64.bits = 29 from rfl, Int.fdiv_eq_ediv_of_nonneg _ (by decide), Nat.shiftRight_eq_div_pow]
      omega
    rw [e2]
    show some (IntKind.u64.wrap (Go.bits .xor .u64 (t : Int) ((t >>> 29 : Nat) : Int) * 13787848793156543929)) = _
    rw [xor64 ht (sr_lt ht 29), show ((13787848793156543929 : Int)) = ((13787848793156543929 : Nat) : Int) from rfl, mul64]
    rfl
  exact key _ ht
theorem rstep_m (k : Nat) {a b : Int} (ha : U a) (hb : U b) : plexusref03_Step.m k a b = some (Ytchpkglnmpmcmaa.P47.seal_stepv a b) := by
  rw [stepv_eq ha hb]
  obtain ⟨A, rfl, hA⟩ := ha.nat
  obtain ⟨B, rfl, hB⟩ := hb.nat
  exact r3step k hA hB
theorem sstep_m (k : Nat) {a b : Int} (ha : U a) (hb : U b) : seal_digest_step.m k a b = some (Ytchpkglnmpmcmaa.P47.seal_stepv a b) := by
  rw [stepv_eq ha hb]
  obtain ⟨A, rfl, hA⟩ := ha.nat
  obtain ⟨B, rfl, hB⟩ := hb.nat
  exact dstepm k hA hB
theorem sjoin_m (k : Nat) {a b : Int} (ha : U a) (hb : U b) : seal_Join.m k a b = some (jn a b) := by
  obtain ⟨A, rfl, hA⟩ := ha.nat
  obtain ⟨B, rfl, hB⟩ := hb.nat
  rw [seal_Join.m_eq]
  unfold jn
  rw [show (1785686382 : Int) = ((1785686382 : Nat) : Int) from rfl, dstepm k (by decide) hA]
  simp only [Option.bind_some, Int.toNat_natCast]
  rw [dstepm k (stepN_lt _ _) hB]; rfl
theorem rwords_l0 (l : List Int) (hl : l.length ≤ 100000) : ∀ (m i : Nat) (h : Int), l.length - i = m → i ≤ l.length → U h →
    Ev2 (fun n k => plexusref03_Words.l0 n k l h (i : Int)) (Ytchpkglnmpmcmaa.P47.seal_stepv (((l.drop i).map (IntKind.u64.wrap ·)).foldl Ytchpkglnmpmcmaa.P47.seal_stepv h) (IntKind.u64.wrap (l.length : Int)))
  | 0, i, h, hm, hi, hu => by
    obtain rfl : i = l.length := by omega
    refine Ev2.step (fun n k => plexusref03_Words.l0_succ n k _ _ _) ?_
    rw [List.drop_length]
    exact ev2F (dF (by omega)) (Ev2.bind ⟨0, fun k _ => rstep_m k hu (wrap_U _)⟩ (Ev2.now _))
  | m + 1, i, h, hm, hi, hu => by
    have hlt : i < l.length := by omega
    refine Ev2.step (fun n k => plexusref03_Words.l0_succ n k _ _ _) ?_
    rw [inc64 (by omega), getD_get hlt, List.drop_eq_getElem_cons hlt, List.map_cons, List.foldl_cons]
    refine ev2T (dT (by omega)) (ev2T (by omega) (ev2T (by omega) (Ev2.bind ⟨0, fun k _ => rstep_m k hu (wrap_U _)⟩ ?_)))
    exact rwords_l0 l hl m (i + 1) _ (by omega) (by omega) (stepv_U hu (wrap_U _))
theorem rwords_f (l : List Int) (hl : l.length ≤ 100000) : Ev (fun k => plexusref03_Words.m k l) (wd l) := by
  refine evX (fun k => plexusref03_Words.m_eq k _) ?_
  have := (rwords_l0 l hl l.length 0 123610861172083 (by omega) (by omega) U_start).diag
  rwa [List.drop_zero] at this
theorem rkey_f (s a : Int) : Ev (fun k => plexusref47_Key.m k s a) (key s a) := by
  refine evX (fun k => plexusref47_Key.m_eq k _ _) (Ev.bind (rwords_f _ (by simp)) ?_)
  simp only [wrap_i64']
  exact Ev.now _
theorem rleaf_f (o : OT) : Ev (fun k => plexusref47_Leaf.m k o) (leaf o) := by
  refine evX (fun k => plexusref47_Leaf.m_eq k _) ?_
  unfold leaf
  by_cases h : o.1 = 0
  · rw [if_pos h]
    exact evT (bT h) (Ev.bind (rwords_f _ (by simp)) (Ev.now _))
  · rw [if_neg h]
    exact evF (bF h) (Ev.bind (rwords_f _ (by simp)) (Ev.now _))
end Go.Proofs.YtchpkglnmpmcmaaQ
namespace Go.Proofs.YtchpkglnmpmcmaaQ
set_option linter.unusedVariables false
set_option linter.unusedSimpArgs false
open Go Go.RowKit Go.Proofs.Ytchpkglnmpmcmaa.V47 Go.Proofs.YtchpkglnmpmcmaaW.PrintWords Go.Proofs.YtchpkglnmpmcmaaW.PrintLast Go.Proofs.YtchpkglnmpmcmaaW.PrintMore
theorem half2 : halfN 2 = 1 := by unfold halfN; rfl
theorem cmt_1 (v x s : Int) : cmt v [x] s = jn (leaf (plc v [x] s 0)) (leaf (plc v [x] s 1)) := by
  unfold cmt
  have e : lvs v [x] s = [leaf (plc v [x] s 0), leaf (plc v [x] s 1)] := rfl
  rw [e, root_big (n := 2) rfl (by omega), half2]
  show jn (root 0 [leaf (plc v [x] s 0)]) (root 0 [leaf (plc v [x] s 1)]) = _
  rw [root_one, root_one]
theorem path_11 (v x s : Int) : path 0 (lvs v [x] s) 1 = [leaf (plc v [x] s 0)] := by
  have e : lvs v [x] s = [leaf (plc v [x] s 0), leaf (plc v [x] s 1)] := rfl
  rw [e, path_r (n := 2) rfl (by omega) (by rw [half2]; omega), half2]
  show path 0 [leaf (plc v [x] s 1)] 0 ++ [root 0 [leaf (plc v [x] s 0)]] = _
  rw [path_one (by simp), root_one]; rfl
theorem shown_arg (x : Int × List Int) (s i : Int) (h : i < 0 ∨ (x.2.length : Int) < i) : Ev (fun k => plexuslaw47_shown.m k x s i) ((0, 0, 0, 0, []), 1) := by
  have hs : Ev (fun k => private_Show.m k x s i) ((0, 0, 0, 0, []), 1) := by
    refine evX (fun k => private_Show.m_eq k x s _) ?_
    by_cases h0 : i < 0
    · exact evT (dT h0) (Ev.now _)
    · exact evF (dF h0) (evT (dT (by omega)) (Ev.now _))
  refine evX (fun k => plexuslaw47_shown.m_eq k x s _) ?_
  refine Ev.bind hs ?_
  exact Ev.bind (a := ((0, 0, 0, 0, []) : OT)) ⟨0, fun k _ => plexuslaw47_of.m_eq k _⟩ (Ev.now _)
theorem xor_U {a b : Int} (ha : U a) (hb : U b) : ∃ n m : Nat, a = n ∧ b = m ∧ n < 2 ^ 64 ∧ m < 2 ^ 64 ∧ IntKind.wrap IntKind.u64 (↑(BitVec.toNat (BitVec.ofInt (IntKind.bits IntKind.u64) a ^^^ BitVec.ofInt (IntKind.bits IntKind.u64) b)) : Int) = ((n ^^^ m : Nat) : Int) := by
  obtain ⟨n, rfl, hn⟩ := ha.nat
  obtain ⟨m, rfl, hm⟩ := hb.nat
  refine ⟨n, m, rfl, rfl, hn, hm, ?_⟩
  have h := xor64 hn hm
  exact h
theorem xor_ne {a b : Int} (ha : U a) (hb : U b) (h0 : b ≠ 0) : IntKind.wrap IntKind.u64 (↑(BitVec.toNat (BitVec.ofInt (IntKind.bits IntKind.u64) a ^^^ BitVec.ofInt (IntKind.bits IntKind.u64) b)) : Int) ≠ a := by
  obtain ⟨n, m, rfl, rfl, hn, hm, e⟩ := xor_U ha hb
  rw [e]
  intro h
  have h2 : n ^^^ m = n := by exact_mod_cast h
  have h3 : m = 0 := by
    have := congrArg (n ^^^ ·) h2
    simpa [← Nat.xor_assoc] using this
  exact h0 (by rw [h3]; rfl)
theorem PB_U {v : Nat} (hv : v ≤ 60) {b : Int} (h : PB v b) : U b := by
  have h4 : ((2 ^ v : Nat) : Int) = 2 ^ v := by simp
  have h2 : 2 ^ v ≤ 2 ^ 60 := Nat.pow_le_pow_right (by decide) hv
  have h3 := h.2
  rw [← h4] at h3
  refine ⟨h.1, ?_⟩
  generalize 2 ^ v = z at h2 h3
  omega
end Go.Proofs.YtchpkglnmpmcmaaQ
namespace Go.Proofs.YtchpkglnmpmcmaaQ
set_option linter.unusedVariables false
set_option linter.unusedSimpArgs false
open Go Go.RowKit Go.Proofs.Ytchpkglnmpmcmaa.V47 Go.Proofs.YtchpkglnmpmcmaaW.PrintWords Go.Proofs.YtchpkglnmpmcmaaW.PrintLast Go.Proofs.YtchpkglnmpmcmaaW.PrintMore
open Go.Vx (mget mset)
def oP : OT := (1, 3, 0, key 5 1, [leaf (plc 3 [3] 5 0)])
def oQ : OT := (0, 3, 1, key 5 0, [leaf (plc 3 [3] 5 1)])
def oX : OT := (0, 2, 0, key 5 0, [])
theorem path_10 (v x s : Int) : path 0 (lvs v [x] s) 0 = [leaf (plc v [x] s 1)] := by
  have e : lvs v [x] s = [leaf (plc v [x] s 0), leaf (plc v [x] s 1)] := rfl
  rw [e, path_l (n := 2) rfl (by omega) (by rw [half2]; omega), half2]
  show path 0 [leaf (plc v [x] s 0)] 0 ++ [root 0 [leaf (plc v [x] s 1)]] = _
  rw [path_one (by simp), root_one]; rfl
theorem path_00 (v s : Int) : path 0 (lvs v [] s) 0 = [] := path_one (by rw [lvs_len]; simp)
theorem opn_P : opn 3 [3] 5 1 = oP := by
  have e : plc 3 [3] 5 1 = (1, 3, 0, key 5 1, []) := by
    unfold plc
    rw [if_neg (by omega)]
    have h : wrap64 (([3] : List Int).getD (1 - 1) 0) = 3 := w64 (x := 3) (by decide) (by decide)
    rw [h]; rfl
  unfold opn oP
  rw [path_11, e]
theorem opn_Q : opn 3 [3] 5 0 = oQ := by
  unfold opn oQ
  rw [path_10]; rfl
theorem opn_X : opn 2 [] 5 0 = oX := by
  unfold opn oX
  rw [path_00]; rfl
theorem chk_leaf {r : Int} {n i : Nat} {o o' : OT} (hp : o'.2.2.2.2 = o.2.2.2.2) (hU : ∀ x ∈ o.2.2.2.2, U x) (h : chk r n i o = 0) (hl : leaf o' ≠ leaf o) : chk r n i o' = 470 := by
  have hf : fold (leaf o) o.2.2.2.2 (sides (n + 1) i) = r := by
    unfold chk at h
    by_cases c1 : o.2.2.1 = (if i = 0 then (n : Int) else 0)
    · rw [if_pos c1] at h
      by_cases c2 : (sides (n + 1) i).length = o.2.2.2.2.length
      · rw [if_pos c2] at h
        by_cases c3 : fold (leaf o) o.2.2.2.2 (sides (n + 1) i) = r
        · exact c3
        · rw [if_neg c3] at h; cases h
      · rw [if_neg c2] at h; cases h
    · rw [if_neg c1] at h; cases h
  unfold chk
  rw [hp]
  by_cases c1 : o'.2.2.1 = (if i = 0 then (n : Int) else 0)
  · rw [if_pos c1]
    by_cases c2 : (sides (n + 1) i).length = o.2.2.2.2.length
    · rw [if_pos c2]
      exact if_neg fun q => hl ((fold_h _ _ _ _ (leaf_U _) (leaf_U _) hU).1 (q.trans hf.symm))
    · rw [if_neg c2]
  · rw [if_neg c1]
theorem ex_bent : chk (cmt 3 [3] 5) 1 1 (1, 1, 0, key 5 1, [leaf (plc 3 [3] 5 0)]) = 470 := by
  have h0 := chk_opn 3 [3] 5 (i := 1) (by simp)
  rw [opn_P] at h0
  refine chk_leaf (o := oP) rfl (fun x hx => ?_) h0 fun e => ?_
  · rw [List.mem_singleton.1 hx]; exact leaf_U _
  · have h3 : wd [key 5 1, 1] = wd [key 5 1, 3] := e
    have := ((wd_2 (.inl rfl)).1 h3).2
    revert this
    decide
end Go.Proofs.YtchpkglnmpmcmaaQ
namespace Go.Proofs.YtchpkglnmpmcmaaQ
set_option linter.unusedVariables false
set_option linter.unusedSimpArgs false
open Go Go.RowKit Go.Proofs.Ytchpkglnmpmcmaa.V47 Go.Proofs.YtchpkglnmpmcmaaW.PrintWords Go.Proofs.YtchpkglnmpmcmaaW.PrintLast Go.Proofs.YtchpkglnmpmcmaaW.PrintMore
theorem ixor_S (a b : Int) : S (IntKind.wrap IntKind.i64 (↑(BitVec.toNat (BitVec.ofInt (IntKind.bits IntKind.i64) a ^^^ BitVec.ofInt (IntKind.bits IntKind.i64) b)) : Int)) := by
  rw [wrap_i64']; exact S_wrap _
theorem ofInt_wrap64 (z : BitVec 64) : BitVec.ofInt 64 (wrap64 (z.toNat : Int)) = z := by
  apply BitVec.eq_of_toNat_eq
  rw [BitVec.toNat_ofInt]
  have h := z.isLt
  unfold wrap64
  omega
theorem ixor_ne {a b : Int} (hb : U b) (h0 : b ≠ 0) : IntKind.wrap IntKind.i64 (↑(BitVec.toNat (BitVec.ofInt (IntKind.bits IntKind.i64) a ^^^ BitVec.ofInt (IntKind.bits IntKind.i64) (IntKind.wrap IntKind.i64 b))) : Int) ≠ a := by
  intro h
  rw [wrap_i64', wrap_i64'] at h
  have h1 := congrArg (BitVec.ofInt 64) h
  rw [show IntKind.bits IntKind.i64 = 64 from rfl, ofInt_wrap64] at h1
  have h2 : BitVec.ofInt 64 (wrap64 b) = 0#64 := by
    have := congrArg (fun q => BitVec.ofInt 64 a ^^^ q) h1
    simpa [← BitVec.xor_assoc] using this
  have h3 := congrArg BitVec.toNat h2
  rw [BitVec.toNat_ofInt] at h3
  unfold wrap64 at h3
  unfold U at hb
  simp at h3
  omega
theorem chk_b {r : Int} {n i : Nat} {o : OT} (h : o.2.2.1 ≠ (if i = 0 then (n : Int) else 0)) : chk r n i o = 470 := by
  unfold chk; exact if_neg h
theorem chk_ok {r : Int} {n i : Nat} {o : OT} (h : chk r n i o = 0) : o.2.2.1 = (if i = 0 then (n : Int) else 0) ∧ (sides (n + 1) i).length = o.2.2.2.2.length ∧ fold (leaf o) o.2.2.2.2 (sides (n + 1) i) = r := by
  unfold chk at h
  by_cases c1 : o.2.2.1 = (if i = 0 then (n : Int) else 0)
  · rw [if_pos c1] at h
    by_cases c2 : (sides (n + 1) i).length = o.2.2.2.2.length
    · rw [if_pos c2] at h
      by_cases c3 : fold (leaf o) o.2.2.2.2 (sides (n + 1) i) = r
      · exact ⟨c1, c2, c3⟩
      · rw [if_neg c3] at h; cases h
    · rw [if_neg c2] at h; cases h
  · rw [if_neg c1] at h; cases h
theorem chk_root {r s : Int} {n i : Nat} {o : OT} (h : chk r n i o = 0) (hs : s ≠ r) : chk s n i o = 470 := by
  obtain ⟨c1, c2, c3⟩ := chk_ok h
  unfold chk
  rw [if_pos c1, if_pos c2, if_neg (fun q => hs (q.symm.trans c3))]
theorem chk_path {r : Int} {n i j : Nat} {o : OT} (h : chk r n i o = 0) (hU : ∀ x ∈ o.2.2.2.2, U x) (hj : j < o.2.2.2.2.length) {v : Int} (hv : U v) (hne : v ≠ o.2.2.2.2.getD j 0) : chk r n i (o.1, o.2.1, o.2.2.1, o.2.2.2.1, o.2.2.2.2.set j v) = 470 := by
  obtain ⟨c1, c2, c3⟩ := chk_ok h
  unfold chk
  rw [if_pos (by exact c1), if_pos (by show _ = (o.2.2.2.2.set j v).length; rw [List.length_set]; exact c2), if_neg]
  intro q
  have hl : leaf (o.1, o.2.1, o.2.2.1, o.2.2.2.1, o.2.2.2.2.set j v) = leaf o := rfl
  rw [hl] at q
  exact hne ((fold_set o.2.2.2.2 (sides (n + 1) i) (leaf o) v j hj c2.symm (leaf_U o) hv hU).1 (q.trans c3.symm))
def Fits (o : OT) : Prop := S o.2.1 ∧ S o.2.2.1 ∧ S o.2.2.2.1
theorem chk_A {r : Int} {n i : Nat} {o : OT} (h : chk r n i o = 0) (hU : ∀ x ∈ o.2.2.2.2, U x) (hf : Fits o) {a : Int} (ha : S a) (hne : a ≠ o.2.1) : chk r n i (o.1, a, o.2.2.1, o.2.2.2.1, o.2.2.2.2) = 470 := by
  refine chk_leaf (o := o) rfl hU h fun e => ?_
  unfold leaf at e
  by_cases h0 : o.1 = 0
  · rw [if_pos (show (o.1, a, o.2.2.1, o.2.2.2.1, o.2.2.2.2).1 = 0 from h0), if_pos h0] at e
    have := ((wd_3 (.inr (.inl ⟨rfl, rfl⟩))).1 e).2.1
    exact hne ((S_inj ha hf.1).1 this)
  · rw [if_neg (show ¬ (o.1, a, o.2.2.1, o.2.2.2.1, o.2.2.2.2).1 = 0 from h0), if_neg h0] at e
    have := ((wd_2 (.inl rfl)).1 e).2
    exact hne ((S_inj ha hf.1).1 this)
theorem chk_K {r : Int} {n i : Nat} {o : OT} (h : chk r n i o = 0) (hU : ∀ x ∈ o.2.2.2.2, U x) (hf : Fits o) {a : Int} (ha : S a) (hne : a ≠ o.2.2.2.1) : chk r n i (o.1, o.2.1, o.2.2.1, a, o.2.2.2.2) = 470 := by
  refine chk_leaf (o := o) rfl hU h fun e => ?_
  unfold leaf at e
  by_cases h0 : o.1 = 0
  · rw [if_pos (show (o.1, o.2.1, o.2.2.1, a, o.2.2.2.2).1 = 0 from h0), if_pos h0] at e
    have := ((wd_3 (.inl ⟨rfl, rfl⟩)).1 e).1
    exact hne ((S_inj ha hf.2.2).1 this)
  · rw [if_neg (show ¬ (o.1, o.2.1, o.2.2.1, a, o.2.2.2.2).1 = 0 from h0), if_neg h0] at e
    have := ((wd_2 (.inr rfl)).1 e).1
    exact hne ((S_inj ha hf.2.2).1 this)
theorem u8_rem4 (z : Nat) : Go.Vx.divF BinOp.rem IntKind.u8 (z : Int) 4 = ((z % 4 : Nat) : Int) := by
  show Int.tmod (z : Int) 4 = _
  rw [Int.tmod_eq_emod_of_nonneg (by omega)]; omega
def BentOf (o b : OT) : Prop := b.1 = o.1 ∧ ((∀ x ∈ b.2.2.2.2, U x) ∧ b.2.2.2.2.length = o.2.2.2.2.length) ∧ ∀ (r : Int) (n i : Nat), o.1 = i → chk r n i o = 0 → chk r n i b = 470
theorem bent_j2 {o : OT} (hU : ∀ x ∈ o.2.2.2.2, U x) (hp : o.2.2.2.2.length ≤ 100000) (hf : Fits o) {z1 : Nat} (hz : z1 < 256) (z0 : Int) {y : Int} (hy : U y) (h0 : y ≠ 0) {v : Nat} (hv : v < 4) (h3 : v = 3 → o.2.2.2.2.length ≠ 0) :
    ∃ b, BentOf o b ∧ Ev (fun k => plexusref47_Bent.j2 k o (z0, (z1 : Int)) y (v : Int)) b := by
  have step := fun k => plexusref47_Bent.j2_eq k o (z0, (z1 : Int)) y (v : Int)
  by_cases v0 : v = 0
  · subst v0
    refine ⟨_, ?_, evX step (evT (bT rfl) (Ev.now _))⟩
    exact ⟨rfl, ⟨hU, rfl⟩, fun r n i _ h => chk_A h hU hf (ixor_S _ _) (ixor_ne hy h0)⟩
  by_cases v1 : v = 1
  · subst v1
    refine ⟨_, ?_, evX step (evF (bF (by decide)) (evT (bT rfl) (Ev.now _)))⟩
    exact ⟨rfl, ⟨hU, rfl⟩, fun r n i _ h => chk_K h hU hf (ixor_S _ _) (ixor_ne hy h0)⟩
  by_cases v2 : v = 2
  · subst v2
    refine ⟨_, ?_, evX step (evF (bF (by decide)) (evF (bF (by decide)) (evT (bT rfl) (Ev.now _))))⟩
    exact ⟨rfl, ⟨hU, rfl⟩, fun r n i _ h => chk_b (fun q => ixor_ne hy h0 (q.trans (chk_ok h).1.symm))⟩
  have hl := h3 (by omega)
  have e : Go.Vx.divF BinOp.rem IntKind.i64 (IntKind.wrap IntKind.i64 (z1 : Int)) (o.2.2.2.2.length : Int) = ((z1 % o.2.2.2.2.length : Nat) : Int) := by
    rw [wrap_i64', w64 (by omega) (by omega), rem_range]
  have hlt : z1 % o.2.2.2.2.length < o.2.2.2.2.length := Nat.mod_lt _ (by omega)
  refine ⟨_, ?_, evX step (evF (bF (by omega)) (evF (bF (by omega)) (evF (bF (by omega)) (evF (by omega) (evT (by rw [e]; omega) (evT (by rw [e]; omega) (evT (by rw [e]; omega) (evT (by rw [e]; omega) (Ev.now _)))))))))⟩
  rw [e, Int.toNat_natCast]
  have hg : U (List.getD o.2.2.2.2 (z1 % o.2.2.2.2.length) (Int.ofNat 0)) := by
    rw [List.getD_eq_getElem?_getD, List.getElem?_eq_getElem hlt]
    exact hU _ (List.getElem_mem hlt)
  have hx := xor_ne hg hy h0
  refine ⟨rfl, ⟨set_U hU (wrap_U _) _, List.length_set⟩, fun r n i _ h => chk_path h hU hlt (wrap_U _) hx⟩
theorem bent_f {o : OT} (hU : ∀ x ∈ o.2.2.2.2, U x) (hp : o.2.2.2.2.length ≤ 100000) (hf : Fits o) {z0 z1 : Nat} (hz : z1 < 256) (hz0 : z0 < 256) {y : Int} (hy : U y) :
    ∃ b, BentOf o b ∧ Ev (fun k => plexusref47_Bent.m k o ((z0 : Int), (z1 : Int)) y) b := by
  have j1 : ∀ {y : Int}, U y → y ≠ 0 → ∀ {v : Nat}, v < 4 → (v = 3 → o.2.2.2.2.length ≠ 0) → ∃ b, BentOf o b ∧ Ev (fun k => plexusref47_Bent.j1 k o ((z0 : Int), (z1 : Int)) y (v : Int)) b := by
    intro y hy h0 v hv h3
    have step := fun k => plexusref47_Bent.j1_eq k o ((z0 : Int), (z1 : Int)) y (v : Int)
    by_cases v2 : v = 2
    · by_cases ha : o.1 > 0
      · obtain ⟨b, hb, he⟩ := bent_j2 hU hp hf hz (z0 : Int) hy h0 (v := 1) (by omega) (by omega)
        exact ⟨b, hb, evX step (evT (bT (by omega)) (evT (dT ha) he))⟩
      · obtain ⟨b, hb, he⟩ := bent_j2 hU hp hf hz (z0 : Int) hy h0 hv h3
        exact ⟨b, hb, evX step (evT (bT (by omega)) (evF (dF ha) he))⟩
    · obtain ⟨b, hb, he⟩ := bent_j2 hU hp hf hz (z0 : Int) hy h0 hv h3
      exact ⟨b, hb, evX step (evF (bF (by omega)) he)⟩
  have j0 : ∀ {y : Int}, U y → y ≠ 0 → ∃ b, BentOf o b ∧ Ev (fun k => plexusref47_Bent.j0 k o ((z0 : Int), (z1 : Int)) y) b := by
    intro y hy h0
    have step := fun k => plexusref47_Bent.j0_eq k o ((z0 : Int), (z1 : Int)) y
    simp only [u8_rem4] at step
    by_cases v3 : z0 % 4 = 3
    · by_cases hl : o.2.2.2.2.length = 0
      · obtain ⟨b, hb, he⟩ := j1 hy h0 (v := 0) (by omega) (by omega)
        exact ⟨b, hb, evX step (evT (bT (by omega)) (evT (bT (by omega)) he))⟩
      · obtain ⟨b, hb, he⟩ := j1 hy h0 (v := z0 % 4) (by omega) (fun _ => hl)
        exact ⟨b, hb, evX step (evT (bT (by omega)) (evF (bF (by omega)) he))⟩
    · obtain ⟨b, hb, he⟩ := j1 hy h0 (v := z0 % 4) (by omega) (fun q => absurd q v3)
      exact ⟨b, hb, evX step (evF (bF (by omega)) he)⟩
  have step := fun k => plexusref47_Bent.m_eq k o ((z0 : Int), (z1 : Int)) y
  by_cases h0 : y = 0
  · obtain ⟨b, hb, he⟩ := j0 (y := 1) ⟨by decide, by decide⟩ (by decide)
    exact ⟨b, hb, evX step (evT (by omega) (evT (bT h0) he))⟩
  · obtain ⟨b, hb, he⟩ := j0 hy h0
    exact ⟨b, hb, evX step (evT (by omega) (evF (bF h0) he))⟩
theorem plc_S {v : Int} (hv : S v) (l : List Int) (hl : l.length ≤ 10000) (s : Int) (i : Nat) : S (plc v l s i).2.1 ∧ S (plc v l s i).2.2.1 ∧ S (plc v l s i).2.2.2.1 := by
  unfold plc
  by_cases h : i = 0
  · rw [if_pos h]; exact ⟨hv, by show S (l.length : Int); unfold S; omega, key_S _ _⟩
  · rw [if_neg h]; exact ⟨S_wrap _, by show S 0; unfold S; omega, key_S _ _⟩
theorem opn_fits {v : Int} (hv : S v) (l : List Int) (hl : l.length ≤ 10000) (s : Int) (i : Nat) : Fits (opn v l s i) := plc_S hv l hl s i
end Go.Proofs.YtchpkglnmpmcmaaQ
namespace Go.Proofs.YtchpkglnmpmcmaaQ
set_option linter.unusedVariables false
set_option linter.unusedSimpArgs false
open Go Go.RowKit Go.Proofs.Ytchpkglnmpmcmaa.P47 Go.Proofs.Ytchpkglnmpmcmaa.V47 Go.Proofs.YtchpkglnmpmcmaaW.PrintWords Go.Proofs.YtchpkglnmpmcmaaW.PrintLast Go.Proofs.YtchpkglnmpmcmaaW.PrintMore
open Go.Vx (mget mset)
theorem mget_mset (x y z : Int) : ∀ M : List (Int × Int), mget z (mset x y M) = if z = x then some y else mget z M
  | [] => by
    show (if z = x then some y else none) = _
    rfl
  | (a, b) :: M => by
    unfold mset
    by_cases h : x = a
    · rw [if_pos h]
      subst h
      show (if z = x then some y else mget z M) = (if z = x then some y else if z = x then some b else mget z M)
      by_cases h2 : z = x
      · rw [if_pos h2, if_pos h2]
      · rw [if_neg h2, if_neg h2, if_neg h2]
    · rw [if_neg h]
      show (if z = a then some b else mget z (mset x y M)) = (if z = x then some y else if z = a then some b else mget z M)
      rw [mget_mset x y z M]
      by_cases h2 : z = a
      · rw [if_pos h2, if_pos h2, if_neg (by rintro rfl; exact h h2)]
      · rw [if_neg h2, if_neg h2]
theorem key_mset (x y z : Int) : ∀ M : List (Int × Int), z ∈ (mset x y M).map (·.1) ↔ z = x ∨ z ∈ M.map (·.1)
  | [] => by show z ∈ [x] ↔ _; simp
  | (a, b) :: M => by
    unfold mset
    by_cases h : x = a
    · rw [if_pos h]; subst h; simp
    · rw [if_neg h]
      have := key_mset x y z M
      rw [List.map_cons, List.mem_cons, this, List.map_cons, List.mem_cons]
      constructor
      · rintro (q | q | q)
        · exact .inr (.inl q)
        · exact .inl q
        · exact .inr (.inr q)
      · rintro (q | q | q)
        · exact .inr (.inl q)
        · exact .inl q
        · exact .inr (.inr q)
theorem nodup_mset (x y : Int) : ∀ M : List (Int × Int), (M.map (·.1)).Nodup → ((mset x y M).map (·.1)).Nodup
  | [], _ => by show [x].Nodup; simp
  | (a, b) :: M, h => by
    unfold mset
    by_cases q : x = a
    · rw [if_pos q]; subst q; exact h
    · rw [if_neg q]
      rw [List.map_cons, List.nodup_cons] at h ⊢
      refine ⟨fun r => ?_, nodup_mset x y M h.2⟩
      rcases (key_mset x y a M).1 r with r | r
      · exact q r.symm
      · exact h.1 r
theorem mget_key (z : Int) : ∀ M : List (Int × Int), (mget z M).isSome = true ↔ z ∈ M.map (·.1)
  | [] => by show (none : Option Int).isSome = true ↔ _; simp
  | (a, b) :: M => by
    show ((if z = a then some b else mget z M)).isSome = true ↔ _
    by_cases h : z = a
    · rw [if_pos h]; simp [h]
    · rw [if_neg h, mget_key z M]; simp [h]
theorem sub_len : ∀ (a b : List Int), a.Nodup → (∀ x ∈ a, x ∈ b) → a.length ≤ b.length
  | [], b, _, _ => Nat.zero_le _
  | x :: a, b, h, hs => by
    rw [List.nodup_cons] at h
    have hx := hs x (List.mem_cons_self ..)
    have := sub_len a (b.erase x) h.2 fun y hy => (List.mem_erase_of_ne (by rintro rfl; exact h.1 hy)).2 (hs y (List.mem_cons_of_mem _ hy))
    rw [List.length_erase_of_mem hx] at this
    have hb : 0 < b.length := List.length_pos_of_mem hx
    simp only [List.length_cons]
    omega
def Says (n : Nat) (A : Nat → Int) (L : List OT) : Prop := ∀ o ∈ L, ∃ i : Nat, i ≤ n ∧ o.1 = i ∧ o.2.1 = A i
structure MInv (n : Nat) (A : Nat → Int) (M : List (Int × Int)) : Prop where
  get : ∀ x y, mget x M = some y → ∃ i : Nat, i ≤ n ∧ x = i ∧ y = A i
  nod : (M.map (·.1)).Nodup
theorem wfold {n : Nat} {A : Nat → Int} : ∀ (L : List OT) (M : List (Int × Int)), Says n A L → MInv n A M → ∃ M', L.foldl wst (false, M) = (false, M') ∧ MInv n A M' ∧ ∀ x, x ∈ M'.map (·.1) ↔ x ∈ M.map (·.1) ∨ ∃ o ∈ L, o.1 = x
  | [], M, _, h => ⟨M, rfl, h, fun x => by simp⟩
  | o :: L, M, hs, h => by
    obtain ⟨i, hi, e1, e2⟩ := hs o (List.mem_cons_self ..)
    have inv : MInv n A (mset o.1 o.2.1 M) := by
      refine ⟨fun x y hxy => ?_, nodup_mset _ _ _ h.nod⟩
      rw [mget_mset] at hxy
      by_cases q : x = o.1
      · rw [if_pos q] at hxy
        exact ⟨i, hi, q.trans e1, (Option.some.inj hxy).symm.trans e2⟩
      · rw [if_neg q] at hxy
        exact h.get x y hxy
    obtain ⟨M', f, g, m⟩ := wfold L (mset o.1 o.2.1 M) (fun p hp => hs p (List.mem_cons_of_mem _ hp)) inv
    refine ⟨M', ?_, g, fun x => ?_⟩
    · rw [List.foldl_cons]
      have e : wst (false, M) o = (false, mset o.1 o.2.1 M) := by
        unfold wst
        rw [if_neg (show ¬ ((false, M).1 = true) from Bool.false_ne_true)]
        by_cases q : (mget o.1 M).isSome = true
        · rw [if_pos q]
          obtain ⟨y, hy⟩ := Option.isSome_iff_exists.1 q
          obtain ⟨j, _, e3, e4⟩ := h.get _ _ hy
          have : j = i := by omega
          subst this
          rw [hy, e2, ← e4]
          simp
        · rw [if_neg q]
      rw [e]; exact f
    · rw [m x, key_mset]
      constructor
      · rintro ((q | q) | ⟨p, hp, q⟩)
        · exact .inr ⟨o, List.mem_cons_self .., q.symm⟩
        · exact .inl q
        · exact .inr ⟨p, List.mem_cons_of_mem _ hp, q⟩
      · rintro (q | ⟨p, hp, q⟩)
        · exact .inl (.inr q)
        · rcases List.mem_cons.1 hp with r | r
          · subst r; exact .inl (.inl q.symm)
          · exact .inr ⟨p, r, q⟩
theorem range_nodup (n : Nat) : ((List.range n).map fun i : Nat => (i : Int)).Nodup := by
  unfold List.Nodup
  rw [List.pairwise_map]
  exact List.nodup_range.imp fun h q => h (by omega)
theorem pwhole_all {r : Int} {n : Nat} (hn : n ≤ 64) {L : List OT} (hl : L.length ≤ 20000) (hc : ∀ o ∈ L, Ev (fun k => private_Check.m k r n o) 0) {A : Nat → Int} (hs : Says n A L) (hall : ∀ i : Nat, i ≤ n → ∃ o ∈ L, o.1 = i) {b : Bool}
    (hv : Ev (fun k => incidence_Valid.m k (A 0, (List.range n).map fun i => IntKind.wrap IntKind.u64 (A (i + 1)))) b) :
    Ev (fun k => private_Whole.m k r n L) (if b = true then ((A 0, (List.range n).map fun i => IntKind.wrap IntKind.u64 (A (i + 1))), 0) else ((0, []), 60)) := by
  obtain ⟨M, f, g, m⟩ := wfold L [] hs ⟨fun x y h => (by cases h), by simp⟩
  have hin : ∀ i : Nat, i ≤ n → (i : Int) ∈ M.map (·.1) := fun i hi => by
    obtain ⟨o, ho, e⟩ := hall i hi
    exact (m _).2 (.inr ⟨o, ho, e⟩)
  have hget : ∀ i : Nat, i ≤ n → (mget (i : Int) M).getD 0 = A i := fun i hi => by
    obtain ⟨y, hy⟩ := Option.isSome_iff_exists.1 ((mget_key (i : Int) M).2 (hin i hi))
    obtain ⟨j, _, e3, e4⟩ := g.get _ _ hy
    have : j = i := by omega
    subst this
    rw [hy, e4]; rfl
  have hM : n < M.length := by
    have := sub_len ((List.range (n + 1)).map fun i : Nat => (i : Int)) (M.map (·.1)) (range_nodup _) fun x hx => by
      obtain ⟨i, hi, rfl⟩ := List.mem_map.1 hx
      exact hin i (by have := List.mem_range.1 hi; omega)
    simp at this; omega
  have e0 : (mget 0 M).getD 0 = A 0 := hget 0 (Nat.zero_le _)
  have eb : blks M n = (List.range n).map fun i => IntKind.wrap IntKind.u64 (A (i + 1)) := by
    unfold blks
    apply List.map_congr_left
    intro i hi
    rw [hget (i + 1) (by have := List.mem_range.1 hi; omega)]
  have h := pwhole_f (r := r) hn hl hc f hM (b := b) (by rw [e0, eb]; exact hv)
  rw [e0, eb] at h
  exact h
theorem pwhole_lack {r : Int} {n : Nat} (hn : n ≤ 64) {L : List OT} (hl : L.length ≤ 20000) (hc : ∀ o ∈ L, Ev (fun k => private_Check.m k r n o) 0) {A : Nat → Int} (hs : Says n A L) {g : Nat} (hg : g ≤ n) (hno : ∀ o ∈ L, o.1 ≠ g) :
    Ev (fun k => private_Whole.m k r n L) ((0, []), 4) := by
  obtain ⟨M, f, gi, m⟩ := wfold L [] hs ⟨fun x y h => (by cases h), by simp⟩
  have hM : M.length ≤ n := by
    have := sub_len ((g : Int) :: M.map (·.1)) ((List.range (n + 1)).map fun i : Nat => (i : Int)) (by
      rw [List.nodup_cons]
      refine ⟨fun q => ?_, gi.nod⟩
      rcases (m _).1 q with q | ⟨o, ho, q⟩
      · simp at q
      · exact hno o ho q) fun x hx => by
      rcases List.mem_cons.1 hx with rfl | hx
      · exact List.mem_map.2 ⟨g, List.mem_range.2 (by omega), rfl⟩
      · obtain ⟨y, hy⟩ := Option.isSome_iff_exists.1 ((mget_key x M).2 hx)
        obtain ⟨j, hj, rfl, _⟩ := gi.get _ _ hy
        exact List.mem_map.2 ⟨j, List.mem_range.2 (by omega), rfl⟩
    simp at this; omega
  exact pwhole_none hn hl hc f hM
end Go.Proofs.YtchpkglnmpmcmaaQ
