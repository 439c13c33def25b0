/- Arguments of any kind that the print knows, read as its kinds: numbers, bools, strings, slices, structs and arrays of them. -/
import Derived.Test.YtjnpcpnjcieheaaGreatWWords
import Derived.SizedLaws
import Derived.ChangeArms
import Derived.ChangeOld
import Derived.OpenShut
import Derived.ShutString
import Derived.WideShapes
import Derived.DataReads
namespace Go.Proofs.YtjnpcpnjcieheaaGreatX
open Go.RowKit Go.Proofs.YtjnpcpnjcieheaaGreatW.PrintWords Go.ChangeShapes Go.WideShapes
theorem addr_add_add (a : Addr) (i j : Nat) : (a.add i).add j = a.add (i + j) := by
  unfold Addr.add
  by_cases hi : i = 0
  · subst hi
    simp
  · by_cases hj : j = 0
    · subst hj
      simp
    · rw [if_neg hj, if_neg hi, if_neg (by omega)]
      simp [Nat.add_assoc]
def Opens (P : Program) (t : TypeId) {α : Type} (d : Kd α) (S : α → Prop) : Prop :=
  P.cellsOf t = d.sz ∧ ∀ {H : Type} (enc : TypeId × Value → H) (W : World) (fuel : Nat) (cs : List Value) (x : DataW H × List MemPlace),
    DataW.trod enc P W 0 (fun _ => true) true fuel t cs = some x → (∀ n ∈ x.1.weights P t, n ≤ reachBytes) → ∃ y : α, d.K W y cs ∧ S y
theorem opens_int {P : Program} {t : TypeId} {k : IntKind} (ht : P.underlying t = some (.int k)) (hc : P.cellsOf t = 1) : Opens P t (Kd.int k) (fun n => (Lit.int k n).wf = true) :=
  ⟨hc, fun enc W fuel cs x h _ => by
    obtain ⟨n, rfl, rfl, hw⟩ := DataW.trod_int ht h
    exact ⟨n, rfl, hw⟩⟩
theorem opens_bool {P : Program} {t : TypeId} (ht : P.underlying t = some .bool) (hc : P.cellsOf t = 1) : Opens P t Kd.bool (fun _ => True) :=
  ⟨hc, fun enc W fuel cs x h _ => by
    obtain ⟨n, rfl, rfl⟩ := DataW.trod_bool ht h
    exact ⟨n, rfl, trivial⟩⟩
theorem opens_string {P : Program} {t : TypeId} (ht : P.underlying t = some .string) (hc : P.cellsOf t = 1) : Opens P t Kd.string (fun s => s.size ≤ 140737488351232) :=
  ⟨hc, fun enc W fuel cs x h hz => by
    obtain ⟨s, rfl, rfl, hw⟩ := DataW.trod_string ht h
    refine ⟨s, rfl, ?_⟩
    have := hz s.data.toList.length (by simp [DataW.weights])
    simpa [reachBytes] using this⟩
theorem weights_mem_all {H : Type} {P : Program} {e : TypeId} : ∀ {ds : List (DataW H)} {d : DataW H}, d ∈ ds → ∀ n ∈ d.weights P e, n ∈ DataW.weightsAll P e ds
  | d0 :: ds, d, hd, n, hn => by
    simp only [DataW.weightsAll, List.mem_append]
    rcases List.mem_cons.1 hd with rfl | hd
    · exact .inl hn
    · exact .inr (weights_mem_all hd n hn)
  | [], _, hd, _, _ => by simp at hd
theorem opens_slice {P : Program} {t e : TypeId} {α : Type} {d : Kd α} {S : α → Prop} (ht : P.underlying t = some (.slice e)) (hc : P.cellsOf t = 1) {B : Nat} (hB : P.bytesOf e = B) (he : Opens P e d S) :
    Opens P t (Kd.slice e d) (fun xs => xs.length * B ≤ 140737488351232 ∧ xs.length ≤ maxLen ∧ ∀ x ∈ xs, S x) := by
  subst hB
  refine ⟨hc, fun {H} enc W fuel cs x h hz => ?_⟩
  rcases DataW.trod_slice ht h with ⟨rfl, rfl⟩ | ⟨a, len, cap, elems, rest, n, _, rfl, rfl, _, hl, hm, hlen, hel, _, _⟩
  · exact ⟨[], ⟨none, 0, rfl, Nat.le_refl _, Kd.C_nil _ _⟩, by simp, by simp, by simp⟩
  · have each : ∀ i : Nat, i < len → ∃ y : α, S y ∧ ∃ cs' : List Value, cs'.length = d.sz ∧ d.K W y cs' ∧ ∀ j u, cs'[j]? = some u → W.cell? (a.add (i * d.sz + j)) = some u := by
      intro i hi
      have hi' : i < elems.length := by omega
      have hx := hel i hi
      rw [List.getElem?_eq_getElem hi', Option.bind_eq_some_iff] at hx
      obtain ⟨cs', hcs, hy⟩ := hx
      obtain ⟨_, hcl, hcc⟩ := World.cells?_some hcs
      obtain ⟨y, hK, hS⟩ := he.2 enc W n cs' _ hy (fun m hm' => hz m (by
        simp only [DataW.weights, ht, List.mem_cons, List.mem_append]
        exact .inr (.inl (weights_mem_all (List.mem_map.2 ⟨_, List.getElem_mem hi', rfl⟩) m hm'))))
      refine ⟨y, hS, cs', by rw [hcl, he.1], hK, fun j u hu => ?_⟩
      have hj : j < cs'.length := (List.getElem?_eq_some_iff.1 hu).1
      have := hcc j (by omega)
      rw [hu] at this
      rw [← this]
      congr 1
      rw [← he.1]
      exact (addr_add_add a _ _).symm
    have build : ∀ m : Nat, m ≤ len → ∃ ys : List α, ys.length = m ∧ (∀ y ∈ ys, S y) ∧ ∀ (i : Nat) (y : α), ys[i]? = some y → ∃ cs' : List Value, cs'.length = d.sz ∧ d.K W y cs' ∧ ∀ j u, cs'[j]? = some u → W.cell? (a.add (i * d.sz + j)) = some u := by
      intro m
      induction m with
      | zero => exact fun _ => ⟨[], rfl, by simp, by simp⟩
      | succ m ih =>
        intro hm'
        obtain ⟨ys, hl', hS, hy⟩ := ih (by omega)
        obtain ⟨y, hSy, hc'⟩ := each m (by omega)
        refine ⟨ys ++ [y], by simp [hl'], ?_, fun i z hz' => ?_⟩
        · intro z hz'
          rcases List.mem_append.1 hz' with h1 | h1
          · exact hS z h1
          · rw [List.mem_singleton.1 h1]
            exact hSy
        · rcases Nat.lt_or_ge i ys.length with hi | hi
          · rw [List.getElem?_append_left hi] at hz'
            exact hy i z hz'
          · rw [List.getElem?_append_right hi] at hz'
            have hi0 : i - ys.length = 0 := by
              have := (List.getElem?_eq_some_iff.1 hz').1
              simp at this
              omega
            rw [hi0] at hz'
            simp only [List.getElem?_cons_zero, Option.some.injEq] at hz'
            subst hz'
            rw [show i = m by omega]
            exact hc'
    obtain ⟨ys, hl', hS, hy⟩ := build len (Nat.le_refl _)
    refine ⟨ys, ⟨some a, cap, by rw [hl'], by omega, ⟨rfl, ?_, fun _ => ⟨a, rfl, fun j p hp => ?_⟩⟩⟩, ?_, by omega, hS⟩
    · have : maxLen = 9223372036854775807 := rfl
      omega
    · exact hy j p hp
    · have z := hz ((elems.length + rest.length) * P.bytesOf e) (by simp [DataW.weights, ht])
      have h1 : ys.length * P.bytesOf e ≤ (elems.length + rest.length) * P.bytesOf e := Nat.mul_le_mul_right _ (by omega)
      exact Nat.le_trans h1 z
def OpensL (P : Program) (ts : List TypeId) {α : Type} (d : Kd α) (S : α → Prop) : Prop :=
  (ts.map P.cellsOf).sum = d.sz ∧ ∀ {H : Type} (enc : TypeId × Value → H) (W : World) (fuel : Nat) (cs : List Value) (xs : List (DataW H × List MemPlace)), cs.length = d.sz → xs.length = ts.length →
    (∀ (i : Nat) (t : TypeId), ts[i]? = some t → DataW.trod enc P W 0 (fun _ => true) true fuel t ((cs.drop ((ts.take i).map P.cellsOf).sum).take (P.cellsOf t)) = xs[i]?) →
    (∀ n ∈ DataW.weightsEach P ts (xs.map (·.1)), n ≤ reachBytes) → ∃ y : α, d.K W y cs ∧ S y
theorem opensL_one {P : Program} {t : TypeId} {α : Type} {d : Kd α} {S : α → Prop} (h : Opens P t d S) : OpensL P [t] d S := by
  refine ⟨by simp [h.1], fun enc W fuel cs xs hl hx ht hz => ?_⟩
  obtain ⟨x, rfl⟩ : ∃ x, xs = [x] := by
    match xs, hx with
    | [x], _ => exact ⟨x, rfl⟩
  have := ht 0 t rfl
  simp only [List.take_zero, List.map_nil, List.sum_nil, List.drop_zero, List.getElem?_cons_zero] at this
  rw [h.1, ← hl, List.take_length] at this
  exact h.2 enc W fuel cs x this (fun n hn => hz n (by simpa [DataW.weightsEach] using hn))
theorem opensL_cons {P : Program} {t : TypeId} {ts : List TypeId} {α β : Type} {d : Kd α} {c : Kd β} {S : α → Prop} {T : β → Prop} (h : Opens P t d S) (k : OpensL P ts c T) : OpensL P (t :: ts) (Kd.pair d c) (fun p => S p.1 ∧ T p.2) := by
  refine ⟨by simp [h.1, k.1, Kd.pair], fun enc W fuel cs xs hl hx ht hz => ?_⟩
  obtain ⟨x, xs, rfl⟩ : ∃ x ys, xs = x :: ys := by
    match xs, hx with
    | x :: ys, _ => exact ⟨x, ys, rfl⟩
  have hl' : cs.length = d.sz + c.sz := hl
  have h0 := ht 0 t rfl
  simp only [List.take_zero, List.map_nil, List.sum_nil, List.drop_zero, List.getElem?_cons_zero] at h0
  rw [h.1] at h0
  obtain ⟨y, hK, hS⟩ := h.2 enc W fuel (cs.take d.sz) x h0 (fun n hn => hz n (by simp only [List.map_cons, DataW.weightsEach, List.mem_append]; exact .inl hn))
  obtain ⟨z, hK2, hT⟩ := k.2 enc W fuel (cs.drop d.sz) xs (by rw [List.length_drop]; omega) (by simpa using hx) (fun i t' hi => by
    have := ht (i + 1) t' (by simpa using hi)
    simp only [List.take_succ_cons, List.map_cons, List.sum_cons, List.getElem?_cons_succ] at this
    rw [List.drop_drop, ← this, h.1]) (fun n hn => hz n (by simp only [List.map_cons, DataW.weightsEach, List.mem_append]; exact .inr hn))
  exact ⟨(y, z), ⟨cs.take d.sz, cs.drop d.sz, (List.take_append_drop _ _).symm, hK, hK2⟩, hS, hT⟩
def inLine (P : Program) : List Field → Nat → Bool
  | [], _ => true
  | f :: fs, o => f.offset == o && inLine P fs (o + P.cellsOf f.type)
theorem inLine_get {P : Program} : ∀ {fs : List Field} {o : Nat}, inLine P fs o = true → ∀ (i : Nat) (f : Field), fs[i]? = some f → f.offset = o + (((fs.take i).map (·.type)).map P.cellsOf).sum
  | f0 :: fs, o, h, 0, f, hf => by
    simp only [inLine, Bool.and_eq_true, beq_iff_eq] at h
    simp only [List.getElem?_cons_zero, Option.some.injEq] at hf
    subst hf
    simpa using h.1
  | f0 :: fs, o, h, i + 1, f, hf => by
    simp only [inLine, Bool.and_eq_true, beq_iff_eq] at h
    have := inLine_get h.2 i f (by simpa using hf)
    rw [this]
    simp only [List.take_succ_cons, List.map_cons, List.sum_cons]
    omega
  | [], _, _, i, f, hf => by simp at hf
theorem opens_struct {P : Program} {t : TypeId} {fs : Array Field} {α : Type} {d : Kd α} {S : α → Prop} (ht : P.underlying t = some (.struct fs)) (hc : P.cellsOf t = d.sz) (hin : inLine P fs.toList 0 = true) (ts : List TypeId) (hts : fs.toList.map (·.type) = ts) (k : OpensL P ts d S) : Opens P t d S := by
  refine ⟨hc, fun enc W fuel cs x h hz => ?_⟩
  obtain ⟨xs, n, rfl, rfl, hl, hlen, hf⟩ := DataW.trod_struct ht h
  subst hts
  refine k.2 enc W n cs xs (by rw [hl, hc]) (by simpa using hlen) (fun i t' hi => ?_) (fun m hm => hz m (by simpa [DataW.weights, ht] using hm))
  rw [List.getElem?_map, Option.map_eq_some_iff] at hi
  obtain ⟨f, hf', rfl⟩ := hi
  rw [← hf i f (by simpa using hf'), inLine_get hin i f hf', Nat.zero_add]
  simp only [List.map_take]
theorem weightsAll_each {H : Type} {P : Program} {e : TypeId} : ∀ (ds : List (DataW H)), DataW.weightsAll P e ds = DataW.weightsEach P (List.replicate ds.length e) ds
  | [] => rfl
  | d :: ds => by simp only [DataW.weightsAll, List.length_cons, List.replicate_succ, DataW.weightsEach, weightsAll_each ds]
theorem opens_array {P : Program} {t e : TypeId} {n : Nat} {α : Type} {d : Kd α} {S : α → Prop} (ht : P.underlying t = some (.array n e)) (hc : P.cellsOf t = d.sz) (k : OpensL P (List.replicate n e) d S) : Opens P t d S := by
  refine ⟨hc, fun enc W fuel cs x h hz => ?_⟩
  obtain ⟨xs, m, rfl, rfl, hl, hlen, hf⟩ := DataW.trod_array ht h
  refine k.2 enc W m cs xs (by rw [hl, hc]) (by simpa using hlen) (fun i t' hi => ?_) (fun q hq => hz q ?_)
  · obtain ⟨hi', he⟩ := List.getElem?_eq_some_iff.1 hi
    simp only [List.length_replicate] at hi'
    simp only [List.getElem_replicate] at he
    subst he
    rw [← hf i hi', List.take_replicate, Nat.min_eq_left (Nat.le_of_lt hi'), List.map_replicate, List.sum_replicate_nat]
  · simp only [DataW.weights, ht]
    rw [weightsAll_each]
    simpa [hlen] using hq
theorem okWide_agg {P : Program} {W : World} {r : Reach} {b : Nat} {t : TypeId} {v : Value} (ht : (∃ fs, P.underlying t = some (.struct fs)) ∨ ∃ n e, P.underlying t = some (.array n e)) (h : Value.okWide P W r b t v) : ∃ cs : List Value, v = .agg cs.toArray ∧ v.cells.toList = cs := by
  rcases ht with ⟨fs, ht⟩ | ⟨n, e, ht⟩ <;> (simp only [Value.okWide, ht] at h; obtain ⟨cs, rfl, _⟩ := h; exact ⟨cs.toList, by simp, by simp [Value.cells]⟩)
end Go.Proofs.YtjnpcpnjcieheaaGreatX
