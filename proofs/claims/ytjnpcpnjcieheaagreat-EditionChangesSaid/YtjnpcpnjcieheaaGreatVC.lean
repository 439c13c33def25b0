/- A law's arguments, whatever their types: what they read as. -/
import Derived.Test.YtjnpcpnjcieheaaGreatVB
import Derived.Test.YtjnpcpnjcieheaaGreatXOpens
import Derived.WalkKit
import Derived.ProofKit
import Derived.OpenShut
import Derived.ShutString
import Derived.ChangeOld
import Derived.Below
import Derived.Carry
import Derived.SizedLaws
namespace Go.Vx
open Go.RowKit Go.ChangeShapes Go.WideShapes Go.ChangeAt Go.Proofs.YtjnpcpnjcieheaaGreatX Go.Proofs.YtjnpcpnjcieheaaGreatW.PrintWords
set_option linter.unusedVariables false
set_option linter.unusedSimpArgs false
def WF : (k : K) → k.T → Prop
  | .int k, x => (Lit.int k x).wf = true
  | .bool, _ => True
  | .str, s => ByteArray.size s ≤ 140737488355328
  | .slice e, xs => List.length xs ≤ 140737488355328 ∧ ∀ x : e.T, List.Mem x xs → WF e x
  | .pair a b, x => WF a x.1 ∧ WF b x.2
  | .unit, _ => True
theorem Opens.imp {P : Program} {t : TypeId} {α : Type} {d : Kd α} {S S' : α → Prop} (h : Opens P t d S) (hS : ∀ y, S y → S' y) : Opens P t d S' :=
  ⟨h.1, fun enc W fuel cs x hx hz => by
    obtain ⟨y, h1, h2⟩ := h.2 enc W fuel cs x hx hz
    exact ⟨y, h1, hS y h2⟩⟩
def okL (f : TypeId → Option K) : List TypeId → Option K
  | [] => none
  | [t] => f t
  | t :: u :: l => match f t, okL f (u :: l) with
    | some a, some b => some (.pair a b)
    | _, _ => none
theorem okL_ok {P : Program} {f : TypeId → Option K} (hf : ∀ t k, f t = some k → Opens P t k.kd (WF k)) : ∀ {ts : List TypeId} {k : K}, okL f ts = some k → OpensL P ts k.kd (WF k)
  | [t], k, h => opensL_one (hf t k h)
  | t :: u :: l, k, h => by
    unfold okL at h
    split at h
    · rename_i a b h1 h2
      obtain rfl := Option.some.inj h
      exact opensL_cons (hf t a h1) (okL_ok hf h2)
    · cases h
def okT (P : Program) : Nat → TypeId → Option K
  | 0, _ => none
  | n + 1, T => match P.underlying T with
    | some (.int k) => bif Nat.beq (P.cellsOf T) 1 then some (.int k) else none
    | some .bool => bif Nat.beq (P.cellsOf T) 1 then some .bool else none
    | some .string => bif Nat.beq (P.cellsOf T) 1 then some .str else none
    | some (.slice e) => (match okT P n e with
      | some k => bif Nat.beq (P.cellsOf T) 1 && Nat.ble 1 (P.bytesOf e) then some (.slice k) else none
      | none => none)
    | some (.struct fs) => (match okL (okT P n) (fs.toList.map (·.type)) with
      | some k => bif Nat.beq (P.cellsOf T) k.sz && inLine P fs.toList 0 then some k else none
      | none => none)
    | some (.array m e) => (match okL (okT P n) (List.replicate m e) with
      | some k => bif Nat.beq (P.cellsOf T) k.sz then some k else none
      | none => none)
    | _ => none
theorem okT_ok {P : Program} : ∀ {n : Nat} {T : TypeId} {k : K}, okT P n T = some k → Opens P T k.kd (WF k)
  | n + 1, T, k, h => by
    unfold okT at h
    split at h
    · rename_i ik hu
      cases hc : Nat.beq (P.cellsOf T) 1 with
      | false => rw [hc] at h; cases h
      | true =>
        rw [hc] at h
        obtain rfl := Option.some.inj h
        exact opens_int hu (Nat.eq_of_beq_eq_true hc)
    · rename_i hu
      cases hc : Nat.beq (P.cellsOf T) 1 with
      | false => rw [hc] at h; cases h
      | true =>
        rw [hc] at h
        obtain rfl := Option.some.inj h
        exact opens_bool hu (Nat.eq_of_beq_eq_true hc)
    · rename_i hu
      cases hc : Nat.beq (P.cellsOf T) 1 with
      | false => rw [hc] at h; cases h
      | true =>
        rw [hc] at h
        obtain rfl := Option.some.inj h
        exact Opens.imp (opens_string hu (Nat.eq_of_beq_eq_true hc)) fun y hy => Nat.le_trans hy (by decide)
    · rename_i e hu
      split at h
      · rename_i ke hke
        cases hc : Nat.beq (P.cellsOf T) 1 && Nat.ble 1 (P.bytesOf e) with
        | false => rw [hc] at h; cases h
        | true =>
          rw [hc] at h
          obtain rfl := Option.some.inj h
          simp only [Bool.and_eq_true] at hc
          have hB := Nat.le_of_ble_eq_true hc.2
          have := opens_slice hu (Nat.eq_of_beq_eq_true hc.1) rfl (okT_ok hke)
          refine Opens.imp (d := (K.slice ke).kd) ⟨this.1, this.2⟩ fun y hy => ⟨?_, fun x hx => hy.2.2 x hx⟩
          have h1 : List.length y * 1 ≤ List.length y * P.bytesOf e := Nat.mul_le_mul_left _ hB
          have := hy.1
          omega
      · cases h
    · rename_i fs hu
      split at h
      · rename_i ke hke
        cases hc : Nat.beq (P.cellsOf T) ke.sz && inLine P fs.toList 0 with
        | false => rw [hc] at h; cases h
        | true =>
          rw [hc] at h
          obtain rfl := Option.some.inj h
          simp only [Bool.and_eq_true] at hc
          exact opens_struct hu ((Nat.eq_of_beq_eq_true hc.1).trans (K.kd_sz ke).symm) hc.2 _ rfl (okL_ok (fun t k q => okT_ok q) hke)
      · cases h
    · rename_i m e hu
      split at h
      · rename_i ke hke
        cases hc : Nat.beq (P.cellsOf T) ke.sz with
        | false => rw [hc] at h; cases h
        | true =>
          rw [hc] at h
          obtain rfl := Option.some.inj h
          exact opens_array hu ((Nat.eq_of_beq_eq_true hc).trans (K.kd_sz ke).symm) (okL_ok (fun t k q => okT_ok q) hke)
      · cases h
    · cases h
def shapeT (P : Program) (T : TypeId) (k : K) : Option Nat :=
  match P.underlying T with
  | some (.struct _) => some k.sz
  | some (.array _ _) => some k.sz
  | _ => none
def argsT (P : Program) : List TypeId → Option (List (Option Nat) × K)
  | [] => some ([], .unit)
  | [t] => match okT P 20 t with
    | some k => bif k.ok then some ([shapeT P t k], k) else none
    | none => none
  | t :: u :: l => match okT P 20 t, argsT P (u :: l) with
    | some k, some (s, a) => bif k.ok then some (shapeT P t k :: s, .pair k a) else none
    | _, _ => none
theorem arg_one {P : Program} {T : TypeId} {k : K} (hk : okT P 20 T = some k) (hok : k.ok = true) {H : Type} {enc : TypeId × Value → H} {W : World} {base : Nat} {v : Value} {d : DataW H} {ps : List MemPlace}
    (h : DataW.Trod enc P W 0 (fun _ => true) true T v d ps) (hw : ∀ n ∈ d.weights P T, n ≤ reachBytes) (hv : Value.okWide P W .any base T v) :
    ∃ (y : k.T) (cs : List Value), Rd W (fun b => b < W.heap.size) k y cs ∧ WF k y ∧ ∀ (l : List (Option Nat)) (rest : List Value), joinA (shapeT P T k :: l) (cs ++ rest) = v :: joinA l rest := by
  obtain ⟨fuel, hf⟩ := h
  obtain ⟨y, hK, hS⟩ := (okT_ok hk).2 enc W fuel _ _ hf hw
  have hR := Rd.of_kd hok hK
  refine ⟨y, _, hR, hS, fun l rest => ?_⟩
  have hlen := hR.len
  have agg : ∀ n, shapeT P T k = some n → n = k.sz ∧ ((∃ fs, P.underlying T = some (.struct fs)) ∨ ∃ n e, P.underlying T = some (.array n e)) := fun n hn => by
    unfold shapeT at hn
    split at hn
    · rename_i fs hu; exact ⟨(Option.some.inj hn).symm, .inl ⟨_, hu⟩⟩
    · rename_i a b hu; exact ⟨(Option.some.inj hn).symm, .inr ⟨_, _, hu⟩⟩
    · cases hn
  have one : shapeT P T k = none → v.cells.toList = [v] := fun hn => by
    unfold shapeT at hn
    have hu1 : ∀ fs, P.underlying T ≠ some (.struct fs) := fun fs q => by rw [q] at hn; cases hn
    have hu2 : ∀ m e, P.underlying T ≠ some (.array m e) := fun m e q => by rw [q] at hn; cases hn
    have hv' : Cell.okWide P W .any base T v := by
      unfold Value.okWide at hv
      split at hv
      · rename_i fs q; exact absurd q (hu1 fs)
      · rename_i m e q; exact absurd q (hu2 m e)
      · exact hv
    cases v with
    | agg cs =>
      exfalso
      unfold okT at hk
      unfold Cell.okWide at hv'
      split at hk <;> first | (rename_i hu; simp [hu, Cell.ok] at hv') | skip
      all_goals first
        | (rename_i hu; exact hu1 _ hu)
        | (rename_i hu; exact hu2 _ _ hu)
        | (cases hk)
    | _ => rfl
  cases hs : shapeT P T k with
  | none =>
    have := one hs
    rw [this]
    rfl
  | some n =>
    obtain ⟨rfl, ha⟩ := agg n hs
    obtain ⟨cs, e1, e2⟩ := okWide_agg ha hv
    rw [e2] at hlen ⊢
    simp only [joinA]
    rw [← hlen, List.take_left, List.drop_left, ← e1]
theorem args_open {P : Program} {H : Type} {enc : TypeId × Value → H} {W : World} {base : Nat} : ∀ {ts : List TypeId} {shapes : List (Option Nat)} {argK : K} {vs : List Value} {ds : List (DataW H)} {ps : List MemPlace}, argsT P ts = some (shapes, argK) →
    DataW.TrodAll enc P W 0 (fun _ => true) true ts vs ds ps → (∀ (j : Nat) (t : TypeId) (d : DataW H), ts[j]? = some t → ds[j]? = some d → ∀ n ∈ d.weights P t, n ≤ reachBytes) → (∀ (j : Nat) (t : TypeId) (v : Value), ts[j]? = some t → vs[j]? = some v → Value.okWide P W .any base t v) →
    ∃ (x : argK.T) (cells : List Value), vs = joinA shapes cells ∧ Rd W (fun b => b < W.heap.size) argK x cells ∧ WF argK x
  | [], shapes, argK, vs, ds, ps, h, hA, hw, hv => by
    obtain ⟨rfl, rfl⟩ := Prod.mk.inj (Option.some.inj h)
    obtain ⟨rfl, rfl, rfl⟩ := trodAll_nil hA
    exact ⟨(), [], rfl, rfl, trivial⟩
  | [t], shapes, argK, vs, ds, ps, h, hA, hw, hv => by
    unfold argsT at h
    split at h
    · rename_i k hk
      cases hok : k.ok with
      | false => rw [hok] at h; cases h
      | true =>
        rw [hok] at h
        obtain ⟨rfl, rfl⟩ := Prod.mk.inj (Option.some.inj h)
        obtain ⟨v, vs', d, ds', p, q, rfl, rfl, rfl, h0, r0⟩ := trodAll_cons hA
        obtain ⟨rfl, rfl, rfl⟩ := trodAll_nil r0
        obtain ⟨y, cs, h1, h2, h3⟩ := arg_one hk hok h0 (hw 0 t d rfl rfl) (hv 0 t v rfl rfl)
        refine ⟨y, cs, ?_, h1, h2⟩
        have := h3 [] []
        rw [List.append_nil] at this
        rw [this]; rfl
    · cases h
  | t :: u :: l, shapes, argK, vs, ds, ps, h, hA, hw, hv => by
    unfold argsT at h
    split at h
    · rename_i k s a hk ha
      cases hok : k.ok with
      | false => rw [hok] at h; cases h
      | true =>
        rw [hok] at h
        obtain ⟨rfl, rfl⟩ := Prod.mk.inj (Option.some.inj h)
        obtain ⟨v, vs', d, ds', p, q, rfl, rfl, rfl, h0, r0⟩ := trodAll_cons hA
        obtain ⟨y, cs, h1, h2, h3⟩ := arg_one hk hok h0 (hw 0 t d rfl rfl) (hv 0 t v rfl rfl)
        obtain ⟨x, cells, g1, g2, g3⟩ := args_open ha r0 (fun j t' d' ht hd => hw (j + 1) t' d' (by simpa using ht) (by simpa using hd)) (fun j t' v' ht hd => hv (j + 1) t' v' (by simpa using ht) (by simpa using hd))
        refine ⟨(y, x), cs ++ cells, ?_, ⟨cs, cells, rfl, h1, g2⟩, h2, g3⟩
        rw [h3, g1]
    · cases h
theorem weights_of {H : Type} {P : Program} {ts ts' : List TypeId} {ds gs : List (DataW H)} (hz : (DataW.weightsEach P (ts ++ ts') (ds ++ gs)).all (· ≤ reachBytes) = true) (hl : ds.length = ts.length) (j : Nat) (t : TypeId) (d : DataW H) (ht : ts[j]? = some t) (hd : ds[j]? = some d) : ∀ n ∈ d.weights P t, n ≤ reachBytes := fun n hn => by
  have h1 : (ts ++ ts')[j]? = some t := by rw [List.getElem?_append_left (List.getElem?_eq_some_iff.1 ht).1]; exact ht
  have h2 : (ds ++ gs)[j]? = some d := by rw [List.getElem?_append_left (List.getElem?_eq_some_iff.1 hd).1]; exact hd
  have := List.all_eq_true.1 hz n (DataW.weights_mem_each h1 h2 n hn)
  simpa using this
theorem trodAll_len {H : Type} {enc : TypeId × Value → H} {P : Program} {W : World} : ∀ {ts : List TypeId} {vs : List Value} {ds : List (DataW H)} {ps : List MemPlace}, DataW.TrodAll enc P W 0 (fun _ => true) true ts vs ds ps → ds.length = ts.length
  | [], vs, ds, ps, h => by obtain ⟨_, rfl, _⟩ := trodAll_nil h; rfl
  | t :: ts, vs, ds, ps, h => by
    obtain ⟨v, vs', d, ds', p, q, rfl, rfl, rfl, h0, r0⟩ := trodAll_cons h
    simp [trodAll_len r0]
theorem trodAll_below {H : Type} {enc : TypeId × Value → H} {P : Program} (hl : laidOutB P = true) {W W' : World} (hb : Below W.heap.size W W') : ∀ {ts : List TypeId} {vs : List Value} {ds : List (DataW H)} {ps : List MemPlace}, (ts.all fun t => P.readableRec t && decide (t < P.types.size)) = true →
    DataW.TrodAll enc P W 0 (fun _ => true) true ts vs ds ps → DataW.TrodAll enc P W' 0 (fun b => decide (b < W.heap.size)) true ts vs ds ps
  | [], vs, ds, ps, _, h => by obtain ⟨rfl, rfl, rfl⟩ := trodAll_nil h; exact trodAll_mk0
  | t :: ts, vs, ds, ps, ht, h => by
    obtain ⟨v, vs', d, ds', p, q, rfl, rfl, rfl, h0, r0⟩ := trodAll_cons h
    simp only [List.all_cons, Bool.and_eq_true, decide_eq_true_eq] at ht
    have lt : ∀ x ∈ p, x.block < W.heap.size := by obtain ⟨m, hm⟩ := h0; exact DataW.trod_lt m _ _ _ hm
    exact trodAll_cons_mk (Below.trod hl ht.1.1 ht.1.2 h0 hb lt) (trodAll_below hl hb (by simpa using ht.2) r0)
end Go.Vx
