/- Leaves and roots of registries, and the law of roots. -/
import Derived.Test.YtjnpcpnjcieheaaGreatQG
import Derived.Test.YtjnpcpnjcieheaaGreatM48
import Derived.Test.YtjnpcpnjcieheaaGreatX48O
namespace Go.Proofs.YtjnpcpnjcieheaaGreatQ
set_option linter.unusedVariables false
set_option linter.unusedSimpArgs false
open Go Go.RowKit Go.Proofs.YtjnpcpnjcieheaaGreat.P47 Go.Proofs.YtjnpcpnjcieheaaGreat.V48 Go.Proofs.YtjnpcpnjcieheaaGreatW.PrintWords Go.Proofs.YtjnpcpnjcieheaaGreatW.PrintLast Go.Proofs.YtjnpcpnjcieheaaGreatW.PrintMore

theorem ex_f : Ev (fun k => plexuslaw48_examples.m k) true := ⟨300, fun k hk => by
  obtain ⟨j, rfl⟩ : ∃ j, k = j + 300 := ⟨k - 300, by omega⟩
  exact examples_m j⟩
theorem words_h (l : List Int) : cWords.h l = some (wd l) := by rw [← cWords.hid]; rfl
def nums (n : NT) : List Int := n.1 :: n.2.1 :: n.2.2.map wrap64
def lf (n : NT) : Int := wd (nums n)
theorem leaf_l0 (n : NT) (hl : n.2.2.length ≤ 1000) : ∀ (p i : Nat), n.2.2.length - i = p → i ≤ n.2.2.length → Ev2 (fun m k => edition_Leaf.l0 m k n (i : Int) (n.1 :: n.2.1 :: (n.2.2.take i).map wrap64)) (lf n)
  | 0, i, hp, hi => by
    obtain rfl : i = n.2.2.length := by omega
    rw [List.take_length]
    exact Ev2.step (fun m k => edition_Leaf.l0_succ m k _ _ _) (ev2F (dF (by omega)) (Ev2.bind (a := lf n) ⟨0, fun k _ => words_h _⟩ (Ev2.now _)))
  | p + 1, i, hp, hi => by
    have hlt : i < n.2.2.length := by omega
    refine Ev2.step (fun m k => edition_Leaf.l0_succ m k _ _ _) (ev2T (dT (by omega)) (ev2T (by omega) (ev2T (by omega) (ev2T (by simp; omega) ?_))))
    have := leaf_l0 n hl p (i + 1) (by omega) (by omega)
    rw [inc64 (by omega), gd hlt, wrap_i64']
    rw [List.take_succ_eq_append_getElem hlt, List.map_append] at this
    exact this
theorem leaf_e (n : NT) (hl : n.2.2.length ≤ 1000) : Ev (fun k => edition_Leaf.m k n) (lf n) :=
  evX (fun k => edition_Leaf.m_eq k _) (leaf_l0 n hl n.2.2.length 0 (by omega) (by omega)).diag
theorem leaves_l0 {r : RT} {z : Nat} (hz : z ≤ 1000) (hr : Reg z r) : ∀ (p i : Nat), r.2.2.length - i = p → i ≤ r.2.2.length → Ev2 (fun m k => edition_leaves.l0 m k r (i : Int) ((r.2.2.take i).map lf)) (r.2.2.map lf)
  | 0, i, hp, hi => by
    obtain rfl : i = r.2.2.length := by omega
    rw [List.take_length]
    exact Ev2.step (fun m k => edition_leaves.l0_succ m k _ _ _) (ev2F (dF (by omega)) (Ev2.now _))
  | p + 1, i, hp, hi => by
    have hlt : i < r.2.2.length := by omega
    have hl := hr.len
    have he := (hr.ent _ (List.getElem_mem hlt)).2.len
    refine Ev2.step (fun m k => edition_leaves.l0_succ m k _ _ _) (ev2T (dT (by omega)) (ev2T (by omega) (ev2T (by omega) ?_)))
    have := leaves_l0 hz hr p (i + 1) (by omega) (by omega)
    rw [inc64 (by omega), gd hlt]
    rw [List.take_succ_eq_append_getElem hlt, List.map_append] at this
    exact Ev2.bind (leaf_e r.2.2[i] (by omega)) (ev2T (by simp; omega) this)
theorem leaves_e {r : RT} {z : Nat} (hz : z ≤ 1000) (hr : Reg z r) : Ev (fun k => edition_leaves.m k r) (r.2.2.map lf) :=
  evX (fun k => edition_leaves.m_eq k _) (leaves_l0 hz hr r.2.2.length 0 (by omega) (by omega)).diag
def rt (l : List Int) : Int := if l = [] then wd [] else root 0 l
theorem rt_U {l : List Int} (hl : ∀ x ∈ l, U x) : U (rt l) := by
  unfold rt
  split
  · exact wd_U _
  · exact root_U 0 U0 _ l rfl hl
theorem rt_s {l : List Int} (hm : l.length ≤ 65536) (hl : ∀ x ∈ l, U x) : Ev (fun k => cRoot.h k l) (rt l) := by
  rw [← cRoot.hid]
  unfold rt
  by_cases h : l = []
  · rw [if_pos h, h]; exact root0
  · rw [if_neg h]; exact root_f _ l rfl (List.length_pos_iff.2 h) hm hl
/-- The root of a list of names. -/
def rg (l : List NT) : Int := jn (rt (l.map lf)) (IntKind.u64.wrap (l.length : Int))
theorem rg_U (l : List NT) : U (rg l) := jn_U _ _
theorem lf_U (n : NT) : U (lf n) := wd_U _
theorem lfs_U (l : List NT) : ∀ x ∈ l.map lf, U x := fun x hx => by
  obtain ⟨n, _, rfl⟩ := List.mem_map.1 hx
  exact lf_U n
theorem root_e {r : RT} {z : Nat} (hz : z ≤ 1000) (hr : Reg z r) : Ev (fun k => edition_Root.m k r) (rg r.2.2) := by
  have hl := hr.len
  have h1 : Ev (fun k => edition_root.m k (r.2.2.map lf)) (rg r.2.2) := by
    refine evX (fun k => edition_root.m_eq k _) (Ev.bind (rt_s (by rw [List.length_map]; omega) (lfs_U _)) (Ev.bind (a := rg r.2.2) ⟨0, fun k _ => ?_⟩ (Ev.now _)))
    rw [List.length_map]
    exact sjoin_m k (rt_U (lfs_U _)) (wrap_U _)
  exact evX (fun k => edition_Root.m_eq k _) (Ev.bind (leaves_e hz hr) (Ev.bind h1 (Ev.now _)))
theorem nums_S {n : NT} (h : S n.1 ∧ Inc 10 n.2) : ∀ y ∈ nums n, S y := fun y hy => by
  rcases List.mem_cons.1 hy with rfl | hy
  · exact h.1
  rcases List.mem_cons.1 hy with rfl | hy
  · exact h.2.pts
  · obtain ⟨z, _, rfl⟩ := List.mem_map.1 hy
    exact S_wrap z
/-- What differs in its Id, or in one block, has another leaf. -/
theorem lf_id {n : NT} (h : S n.1 ∧ Inc 10 n.2) {a : Int} (ha : S a) : lf (a, n.2) = lf n ↔ a = n.1 :=
  wd_set (l := nums n) (i := 0) (by simp [nums]) ha (nums_S h)
theorem lf_block {n : NT} (h : S n.1 ∧ Inc 10 n.2) {j : Nat} (hj : j < n.2.2.length) {b : Int} (hb : U b) : lf (n.1, n.2.1, n.2.2.set j b) = lf n ↔ b = n.2.2[j] := by
  have e : nums (n.1, n.2.1, n.2.2.set j b) = (nums n).set (j + 2) (wrap64 b) := by
    unfold nums
    rw [List.map_set]; rfl
  unfold lf
  rw [e, wd_set (l := nums n) (i := j + 2) (by simp [nums]; omega) (S_wrap _) (nums_S h)]
  have e2 : (nums n).getD (j + 2) 0 = wrap64 n.2.2[j] := by
    rw [List.getD_eq_getElem?_getD]
    show (((n.2.2.map wrap64)[j]?).getD 0) = _
    rw [List.getElem?_map, List.getElem?_eq_getElem hj]; rfl
  rw [e2, U_inj hb (h.2.blk _ (List.getElem_mem hj))]
theorem rg_set {l : List NT} {i : Nat} (hi : i < l.length) (n : NT) : rg (l.set i n) = rg l ↔ lf n = lf l[i] := by
  unfold rg
  rw [List.length_set, jn_left (rt_U (lfs_U _)) (rt_U (lfs_U _)) (wrap_U _), List.map_set]
  have h1 : l.map lf ≠ [] := fun q => by rw [List.map_eq_nil_iff] at q; rw [q] at hi; simp at hi
  have h2 : (l.map lf).set i (lf n) ≠ [] := fun q => h1 (List.length_eq_zero_iff.1 (by rw [← List.length_set (i := i) (a := lf n), q]; rfl))
  unfold rt
  rw [if_neg h1, if_neg h2]
  have := (root_set 0 (lf n) (l.map lf) i (by rw [List.length_map]; exact hi) U0 (lfs_U _) (lf_U _)).1
  have e : (l.map lf).getD i 0 = lf l[i] := by rw [List.getD_eq_getElem?_getD, List.getElem?_map, List.getElem?_eq_getElem hi]; rfl
  rw [e] at this
  exact ⟨fun q => this.1 q.symm, fun q => (this.2 q).symm⟩
theorem set_eq {α : Type} {l : List α} {i : Nat} (hi : i < l.length) (a : α) : l.set i a = l ↔ a = l[i] := by
  constructor
  · intro h
    have : (l.set i a)[i]'(by rw [List.length_set]; exact hi) = l[i] := by simp only [h]
    rw [List.getElem_set_self] at this
    exact this
  · rintro rfl
    exact List.set_getElem_self hi
/-! ### equality of registries -/
theorem same21_l0 {a b : RT} (ha : Reg 100 a) (hb : Reg 100 b) (h : a.2.2.length = b.2.2.length) : ∀ (p i : Nat), a.2.2.length - i = p → i ≤ a.2.2.length → Ev2 (fun n k => plexusref21_Same.l0 n k a b (i : Int)) (decide (a.2.2.drop i = b.2.2.drop i))
  | 0, i, hp, hi => by
    rw [List.drop_eq_nil_of_le (by omega), List.drop_eq_nil_of_le (by omega)]
    exact Ev2.step (fun n k => plexusref21_Same.l0_succ n k _ _ _) (ev2F (dF (by omega)) (Ev2.now _))
  | p + 1, i, hp, hi => by
    have h1 : i < a.2.2.length := by omega
    have h2 : i < b.2.2.length := by omega
    have hl := ha.len
    have he := (ha.ent _ (List.getElem_mem h1)).2.len
    refine Ev2.step (fun n k => plexusref21_Same.l0_succ n k _ _ _) (ev2T (dT (by omega)) (ev2T (by omega) (ev2T (by omega) (ev2T (by omega) (ev2T (by omega) ?_)))))
    rw [gd h1, gd h2, List.drop_eq_getElem_cons h1, List.drop_eq_getElem_cons h2]
    by_cases q : a.2.2[i].1 = b.2.2[i].1
    · refine ev2F (nF q) (ev2T (by omega) (ev2T (by omega) (ev2T (by omega) (ev2T (by omega) (Ev2.bind (same06_f (a := a.2.2[i].2) (b := b.2.2[i].2) (by omega)) ?_)))))
      by_cases c : a.2.2[i].2 = b.2.2[i].2
      · refine ev2F (by simp [c]) ?_
        rw [inc64 (by omega), show (decide (a.2.2[i] :: List.drop (i + 1) a.2.2 = b.2.2[i] :: List.drop (i + 1) b.2.2)) = decide (List.drop (i + 1) a.2.2 = List.drop (i + 1) b.2.2) from decide_eq_decide.2 ⟨fun h => (List.cons.inj h).2, fun h => by rw [h, Prod.ext q c]⟩]
        exact same21_l0 ha hb h p (i + 1) (by omega) (by omega)
      · refine ev2T (by simp [c]) ?_
        rw [show (decide (a.2.2[i] :: List.drop (i + 1) a.2.2 = b.2.2[i] :: List.drop (i + 1) b.2.2)) = false from decide_eq_false fun h => c (congrArg Prod.snd (List.cons.inj h).1)]
        exact Ev2.now _
    · refine ev2T (nT q) ?_
      rw [show (decide (a.2.2[i] :: List.drop (i + 1) a.2.2 = b.2.2[i] :: List.drop (i + 1) b.2.2)) = false from decide_eq_false fun h => q (congrArg Prod.fst (List.cons.inj h).1)]
      exact Ev2.now _
theorem same21_f {a b : RT} (ha : Reg 100 a) (hb : Reg 100 b) : Ev (fun k => plexusref21_Same.m k a b) (decide (a = b)) := by
  by_cases h1 : a.1 = b.1
  · by_cases h2 : a.2.1 = b.2.1
    · by_cases h : a.2.2.length = b.2.2.length
      · rw [show decide (a = b) = decide (a.2.2 = b.2.2) from decide_eq_decide.2 ⟨fun q => by rw [q], fun q => Prod.ext h1 (Prod.ext h2 q)⟩]
        exact evX (fun k => plexusref21_Same.m_eq k _ _) (evF (nF h1) (evF (nF h2) (evF (nF (by omega)) (same21_l0 ha hb h a.2.2.length 0 (by omega) (by omega)).diag)))
      · rw [show decide (a = b) = false from decide_eq_false fun q => h (by rw [q])]
        exact evX (fun k => plexusref21_Same.m_eq k _ _) (evF (nF h1) (evF (nF h2) (evT (nT (by omega)) (Ev.now _))))
    · rw [show decide (a = b) = false from decide_eq_false fun q => h2 (by rw [q])]
      exact evX (fun k => plexusref21_Same.m_eq k _ _) (evF (nF h1) (evT (nT h2) (Ev.now _)))
  · rw [show decide (a = b) = false from decide_eq_false fun q => h1 (by rw [q])]
    exact evX (fun k => plexusref21_Same.m_eq k _ _) (evT (nT h1) (Ev.now _))
/-! ### a registry that is changed -/
theorem rem_idx {x : Int} {n : Nat} (hx : BY x) (hn : 0 < n) (hm : n ≤ 1000) : ∃ i : Nat, i < n ∧ Go.Vx.divF BinOp.rem IntKind.i64 (IntKind.wrap IntKind.i64 x) (n : Int) = (i : Int) := by
  have h0 := hx.1
  have h1 := hx.2
  rw [wrap_i64', w64 (by omega) (by omega)]
  obtain ⟨X, rfl⟩ := Int.eq_ofNat_of_zero_le hx.1
  exact ⟨X % n, Nat.mod_lt _ hn, rem_range⟩
theorem set_reg {r : RT} {z : Nat} (hr : Reg z r) (i : Nat) {n : NT} (hn : S n.1 ∧ Inc 10 n.2) : Reg z (r.1, r.2.1, r.2.2.set i n) := ⟨hr.nx, by show (r.2.2.set i n).length ≤ z; rw [List.length_set]; exact hr.len, fun e he => (List.mem_or_eq_of_mem_set he).elim (hr.ent e) fun q => q ▸ hn⟩
theorem changed_f {r : RT} {z : Nat} (hz : z ≤ 100) (hr : Reg z r) {a : Int × Int} (h0 : BY a.1) (h1 : BY a.2) {by_ : Int} (hb : U by_) : ∃ q : RT, Reg z q ∧ q.1 = r.1 ∧ q.2.1 = r.2.1 ∧ (rg q.2.2 = rg r.2.2 ↔ q = r) ∧ Ev (fun k => plexusref48_Changed.m k r a by_) q := by
  have hl := hr.len
  by_cases hn : r.2.2.length = 0
  · exact ⟨r, hr, rfl, rfl, by simp, evX (fun k => plexusref48_Changed.m_eq k _ _ _) (evT (bT (by omega)) (Ev.now _))⟩
  obtain ⟨i, hi, ei⟩ := rem_idx (n := r.2.2.length) h0 (by omega) (by omega)
  have hent := hr.ent _ (List.getElem_mem hi)
  have hlen := hent.2.len
  have key : ∀ n : NT, S n.1 ∧ Inc 10 n.2 → (lf n = lf r.2.2[i] ↔ n = r.2.2[i]) → n.2.1 = r.2.2[i].2.1 → Ev (fun k => plexusref48_Changed.j0 k r a n.1 n.2.2) (r.1, r.2.1, r.2.2.set i n) ∧ Reg z (r.1, r.2.1, r.2.2.set i n) ∧ (rg (r.2.2.set i n) = rg r.2.2 ↔ (r.1, r.2.1, r.2.2.set i n) = r) := fun n h2 h3 h4 => by
    refine ⟨evX (fun k => plexusref48_Changed.j0_eq k _ _ _ _) ?_, set_reg hr i h2, ?_⟩
    · rw [ei]
      refine evT (by omega) (evT (by omega) ?_)
      rw [gd hi, Int.toNat_natCast, ← h4]
      exact Ev.now _
    · rw [rg_set hi, h3, ← set_eq hi]
      exact ⟨fun q => by rw [q], fun q => congrArg (fun x : RT => x.2.2) q⟩
  have g2 : List.getD r.2.2 (Int.toNat (i : Int)) (Int.ofNat 0, Int.ofNat 0, []) = r.2.2[i] := gd hi
  have start : ∀ (g : Nat → Option RT), (∀ k, plexusref48_Changed.m k r a by_ = if (((r.2.2[i].2.2.length : Nat) : Int) == 0) = true then plexusref48_Changed.j1 k r a by_ true else plexusref48_Changed.j1 k r a by_ (Go.Vx.divF BinOp.rem IntKind.u8 a.2 4 == 0)) := fun _ k => by
    rw [plexusref48_Changed.m_eq, if_neg (bF (by omega)), if_neg (by omega), if_pos (by omega), ei, if_pos (by omega), if_pos (by omega), g2]
  have byId : ∃ q : RT, Reg z q ∧ q.1 = r.1 ∧ q.2.1 = r.2.1 ∧ (rg q.2.2 = rg r.2.2 ↔ q = r) ∧ Ev (fun k => plexusref48_Changed.j1 k r a by_ true) q := by
    obtain ⟨e1, e2, e3⟩ := key (IntKind.wrap IntKind.i64 by_, r.2.2[i].2) ⟨S_w _, hent.2⟩ (by
      rw [lf_id hent (S_w _)]
      exact ⟨fun q => Prod.ext q rfl, fun q => congrArg Prod.fst q⟩) rfl
    refine ⟨_, e2, rfl, rfl, e3, evX (fun k => plexusref48_Changed.j1_eq k _ _ _ _) (evT rfl ?_)⟩
    rw [ei, g2]
    exact e1
  by_cases hB : r.2.2[i].2.2.length = 0
  · obtain ⟨q, q1, q2, q3, q4, q5⟩ := byId
    exact ⟨q, q1, q2, q3, q4, evX (start (fun _ => none)) (evT (bT (by omega)) q5)⟩
  by_cases hk : Go.Vx.divF BinOp.rem IntKind.u8 a.2 4 = 0
  · obtain ⟨q, q1, q2, q3, q4, q5⟩ := byId
    exact ⟨q, q1, q2, q3, q4, evX (start (fun _ => none)) (evF (bF (by omega)) (by rw [bT hk]; exact q5))⟩
  obtain ⟨j, hj, ej⟩ := rem_idx (n := r.2.2[i].2.2.length) h1 (by omega) (by omega)
  obtain ⟨e1, e2, e3⟩ := key (r.2.2[i].1, r.2.2[i].2.1, r.2.2[i].2.2.set j by_) ⟨hent.1, hent.2.pts, by show (r.2.2[i].2.2.set j by_).length ≤ 10; rw [List.length_set]; exact hlen, fun y hy => (List.mem_or_eq_of_mem_set hy).elim (hent.2.blk y) fun q => q ▸ hb⟩ (by
      rw [lf_block hent hj hb, ← set_eq hj]
      exact ⟨fun q => Prod.ext rfl (Prod.ext rfl q), fun q => congrArg (fun x : NT => x.2.2) q⟩) rfl
  refine ⟨_, e2, rfl, rfl, e3, evX (start (fun _ => none)) (evF (bF (by omega)) ?_)⟩
  rw [show (Go.Vx.divF BinOp.rem IntKind.u8 a.2 4 == 0) = false from by simp [hk]]
  refine evX (fun k => plexusref48_Changed.j1_eq k _ _ _ _) (evF (by decide) ?_)
  rw [ei, g2, ej, Int.toNat_natCast]
  exact evT (by omega) (evF (by omega) (evT (by omega) (evT (by omega) e1)))
theorem roots_of {x : Int × Int × List (List Int)} (hx : ∀ l ∈ x.2.2, ∀ b ∈ l, BY b) {a : Int × Int} (h0 : BY a.1) (h1 : BY a.2) {by_ : Int} (hb : U by_) : Ev (fun k => plexuslaw48_EditionRoots.m k x a by_) true := by
  obtain ⟨r, hr, mr⟩ := made21_f hx
  obtain ⟨q, hq, q1, q2, q3, q4⟩ := changed_f (by omega) hr h0 h1 hb
  refine evX (fun k => plexuslaw48_EditionRoots.m_eq k _ _ _) (Ev.bind ex_f (evF (by decide) (Ev.bind mr (Ev.bind q4 (Ev.bind (root_e (by omega) hr) (Ev.bind (root_e (by omega) hq) (Ev.bind (same21_f (hr.mono (by omega)) (hq.mono (by omega))) ?_)))))))
  have e : ((rg r.2.2 == rg q.2.2) == decide (r = q)) = true := by
    by_cases c : q = r
    · rw [c]; simp
    · have c1 : ¬ rg r.2.2 = rg q.2.2 := fun z => c (q3.1 z.symm)
      have c2 : ¬ r = q := fun z => c z.symm
      simp [c1, c2]
  have hf : Reg 6 (IntKind.wrap IntKind.i64 (3 - r.1), IntKind.wrap IntKind.i64 (r.2.1 + 5), r.2.2) := ⟨S_w _, hr.len, hr.ent⟩
  exact evT e (Ev.bind (root_e (by omega) hf) (Ev.bind (root_e (by omega) hr) (evT (bT rfl) (Ev.now _))))

end Go.Proofs.YtjnpcpnjcieheaaGreatQ
