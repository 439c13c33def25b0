/- Functions: their contracts out of what their code does abstractly. -/
import Derived.Test.YtcanekmlabehgaaVm
namespace Go.Vx
open Go.RowKit Go.Proofs.YtcanekmlabehgaaW.PrintWords
set_option linter.unusedVariables false
set_option linter.unusedSimpArgs false

def resAV (P : Program) (s : St) : ResultVar → Option AV
  | .tmp t => some (nth s.tmps t)
  | .cell p T => match nth s.tmps p with
    | .ptr t off => match find t s.ents with
      | some (.box _ cells) => take1 P T (cells.drop off)
      | _ => none
    | _ => none
def resAVs (P : Program) (s : St) : List ResultVar → Option (List AV)
  | [] => some []
  | x :: l => match resAV P s x, resAVs P s l with
    | some av, some m => some (av :: m)
    | _, _ => none
def resRun (tmps : Array Value) : ResultVar → Sem Value
  | .tmp t => pure (tmps.getD t undef)
  | .cell a t => do loadVar t (← asAddr (tmps.getD a undef))
theorem resAV_ok {P : Program} {W0 : Base} {E : Env} {s : St} {a : Act} {w : World} (hs : Sim W0 E s a w) {x : ResultVar} {av : AV} (h : resAV P s x = some av) : ∃ v, VR E w av v ∧ (resRun a.tmps x).run P w = .ok v w := by
  cases x with
  | tmp t =>
    obtain rfl := Option.some.inj h
    exact ⟨_, hs.slots t, rfl⟩
  | cell p T =>
    simp only [resAV] at h
    split at h
    · rename_i t off hx
      split at h
      · rename_i T' cells he
        have := hs.slots p
        rw [hx] at this
        obtain ⟨hu, b, hvs, e⟩ := this
        obtain ⟨_, b', vals, hvs', h0, hF, hg, hc⟩ := hs.ents _ _ he
        rw [hvs] at hvs'
        obtain rfl : b = b' := by injection hvs' with q; injection q with q; injection q
        obtain ⟨v, hv, hr⟩ := take1_run (w' := w) (ad := ⟨b, off, none⟩) h (hc.drop off)
        refine ⟨v, hv, ?_⟩
        simp only [resRun, Sem.run_bind, e, asAddr, Sem.run_pure, Result.andThen_ok]
        exact hr w fun j u hj => by
          rw [add_off, cell_of_row w b (off + j) vals T' (0, 0) hg, ← Array.getElem?_toList]
          rwa [List.getElem?_drop] at hj
      · cases h
    · cases h
theorem resAVs_ok {P : Program} {W0 : Base} {E : Env} {s : St} {a : Act} {w : World} (hs : Sim W0 E s a w) : ∀ {l : List ResultVar} {avs : List AV}, resAVs P s l = some avs → ∃ vs, All2 (VR E w) avs vs ∧ (l.mapM (resRun a.tmps)).run P w = .ok vs w ∧ vs.length = l.length
  | [], avs, h => ⟨[], by obtain rfl := Option.some.inj h; trivial, by simp, rfl⟩
  | x :: l, avs, h => by
    unfold resAVs at h
    split at h
    · rename_i av m h1 h2
      obtain rfl := Option.some.inj h
      obtain ⟨v, hv, hr⟩ := resAV_ok hs h1
      obtain ⟨vs, hvs, hrs, hl⟩ := resAVs_ok hs h2
      exact ⟨v :: vs, ⟨hv, hvs⟩, by simp [List.mapM_cons, hr, hrs], by simp [hl]⟩
    · cases h
def tup1 : List Value → Value
  | [v] => v
  | vs => .tuple vs.toArray
theorem results_eq (fn : Func) (tmps : Array Value) : results fn tmps = (do let vs ← fn.results.mapM (resRun tmps); pure (if h : vs.size = 1 then vs[0] else .tuple vs)) := by
  unfold results
  refine congrArg (fun g => (do let vs ← fn.results.mapM g; pure (if h : vs.size = 1 then vs[0] else Value.tuple vs) : Sem Value)) (funext fun x => ?_)
  cases x <;> rfl
theorem run_results {P : Program} {fn : Func} {tmps : Array Value} {w : World} {vs : List Value} (h : (fn.results.toList.mapM (resRun tmps)).run P w = .ok vs w) : (results fn tmps).run P w = .ok (tup1 vs) w := by
  rw [results_eq, Array.mapM_eq_mapM_toList]
  simp only [Sem.run_bind, Sem.run_map, h, Result.andThen_ok]
  cases vs with
  | nil => rfl
  | cons v vs => cases vs <;> rfl
def Ret.shape : Ret → List (Option Nat)
  | .one s => [s]
  | .tup l => l
def Ret.fits : Ret → Nat → Bool
  | .one _, n => Nat.beq n 1
  | .tup _, n => !Nat.beq n 1
theorem ret_val {rt : Ret} {vals vs : List Value} (h : joinA rt.shape vals = vs) (hl : rt.fits vs.length = true) : tup1 vs = rt.val vals := by
  cases rt with
  | one s =>
    have h1 : vs.length = 1 := Nat.eq_of_beq_eq_true hl
    match vs, h1, h with
    | [v], _, h =>
      show v = _
      cases s with
      | none =>
        cases vals with
        | nil => simp [Ret.shape, joinA] at h
        | cons c cs => simp only [Ret.shape, joinA] at h; injection h with h _; rw [← h]; rfl
      | some n => simp only [Ret.shape, joinA] at h; injection h with h _; rw [← h]; rfl
  | tup l =>
    have h1 : Nat.beq vs.length 1 = false := by simpa [Ret.fits] using hl
    match vs, h1, h with
    | [], _, h => show Value.tuple [].toArray = Value.tuple (joinA l vals).toArray
                  rw [show joinA l vals = [] from h]
    | [v], h1, _ => cases h1
    | u :: v :: vs, _, h =>
      show Value.tuple _ = Value.tuple (joinA l vals).toArray
      rw [show joinA l vals = _ from h]
def ownOut (s : St) (k : K) (T : TypeId) : List AV → Option (List k.T)
  | [.own t] => match find t s.ents with
    | some (.row r) => bif Nat.beq r.T T && !r.fz then K.cast (.slice r.k) (.slice k) r.xs else none
    | _ => none
  | [.val (.slice none 0 0)] => some []
  | _ => none
def outI (s : St) : (l : List Item) → List AV → Option (itemsT l)
  | [], [] => some ()
  | [], _ :: _ => none
  | [.im k], cs => prj s false k cs
  | [.own k T], cs => ownOut s k T cs
  | .im k :: b :: l, cs => match prj s false k (cs.take k.sz), outI s (b :: l) (cs.drop k.sz) with
    | some x, some y => some (x, y)
    | _, _ => none
  | .own k T :: b :: l, cs => match ownOut s k T (cs.take 1), outI s (b :: l) (cs.drop 1) with
    | some x, some y => some (x, y)
    | _, _ => none
def imCells : List Item → List AV → List AV
  | [], _ => []
  | .im k :: l, cs => cs.take k.sz ++ imCells l (cs.drop k.sz)
  | .own _ _ :: l, cs => imCells l (cs.drop 1)
def ownCells : List Item → List AV → List AV
  | [], _ => []
  | .im k :: l, cs => ownCells l (cs.drop k.sz)
  | .own _ _ :: l, cs => cs.take 1 ++ ownCells l (cs.drop 1)
def plainAll : List Item → Bool
  | [] => true
  | .im k :: l => k.plain && plainAll l
  | .own k _ :: l => k.plain && plainAll l
theorem Rd.anyF {w w' : World} {F F' : Nat → Prop} : ∀ {k : K} {x : k.T} {cs : List Value}, k.plain = true → Rd w F k x cs → Rd w' F' k x cs
  | .int _, _, _, _, h => h
  | .bool, _, _, _, h => h
  | .str, _, _, _, h => h
  | .pair a b, _, _, hp, h => by
    obtain ⟨c0, c1, rfl, h0, h1⟩ := h
    simp only [K.plain, Bool.and_eq_true] at hp
    exact ⟨c0, c1, rfl, Rd.anyF hp.1 h0, Rd.anyF hp.2 h1⟩
theorem RIs.anyF {B : Nat} {w : World} {F : Nat → Prop} : ∀ {l : List Item} {x : itemsT l} {cs : List Value}, plainAll l = true → RIs B w F l x cs → RIs B w (fun _ => False) l x cs
  | [], _, _, _, h => h
  | [.im k], _, _, hp, h => by
    simp only [plainAll, Bool.and_true] at hp
    exact Rd.anyF hp h
  | [.own k T], _, _, hp, h => by
    simp only [plainAll, Bool.and_true] at hp
    obtain ⟨v, rfl, ⟨cells, ho, hr⟩, _⟩ := h
    exact ⟨v, rfl, ⟨cells, ho, hr.imp_ fun _ _ q => Rd.anyF hp q⟩, fun _ _ q => q⟩
  | .im k :: b :: l, _, _, hp, h => by
    obtain ⟨c0, c1, rfl, h0, h1⟩ := h
    rw [plainAll, Bool.and_eq_true] at hp
    exact ⟨c0, c1, rfl, Rd.anyF hp.1 h0, RIs.anyF hp.2 h1⟩
  | .own k T :: b :: l, _, _, hp, h => by
    obtain ⟨c0, c1, rfl, h0, h1⟩ := h
    rw [plainAll, Bool.and_eq_true] at hp
    obtain ⟨v, rfl, ⟨cells, ho, hr⟩, _⟩ := h0
    exact ⟨[v], c1, rfl, ⟨v, rfl, ⟨cells, ho, hr.imp_ fun _ _ q => Rd.anyF hp.1 q⟩, fun _ _ q => q⟩, RIs.anyF hp.2 h1⟩
theorem ownOut_ok {W0 : Base} {E : Env} {s : St} {w : World} (hs : SimS W0 E s w) {k : K} {T : TypeId} {cells : List AV} {vals : List Value} {xs : List k.T} (h : ownOut s k T cells = some xs) (hc : All2 (VB E w) cells vals) : RI W0.W.heap.size w E.F (.own k T) xs vals := by
  match cells, vals, h, hc with
  | [.own t], [u], h, hc =>
    have h' : (match find t s.ents with
      | some (.row r) => bif Nat.beq r.T T && !r.fz then K.cast (.slice r.k) (.slice k) r.xs else none
      | _ => none) = some xs := h
    cases he : find t s.ents with
    | none => rw [he] at h'; cases h'
    | some en =>
      cases en with
      | box T cells => rw [he] at h'; cases h'
      | row r =>
        rw [he] at h'
        simp only [] at h'
        cases hcnd : Nat.beq r.T T && !r.fz with
        | false => rw [hcnd] at h'; cases h'
        | true =>
          rw [hcnd] at h'
          simp only [Bool.and_eq_true, Bool.not_eq_true'] at hcnd
          obtain ⟨e1, e2⟩ := K.cast_eq h'
          obtain ⟨k', T', fz', xs'⟩ := r
          injection e1 with e1
          subst e1
          obtain rfl : xs' = xs := e2
          obtain ⟨_, hrow, hF⟩ := hs.ents _ _ he
          obtain rfl := Nat.eq_of_beq_eq_true hcnd.1
          refine ⟨u, rfl, ?_, fun b hb q => ?_⟩
          · rw [show u = E.vs t from hc.1.2]; exact hrow
          · rw [show u = E.vs t from hc.1.2] at hb
            have := (hF b hb).1 q
            rw [hcnd.2] at this
            cases this
  | [.val (.slice none 0 0)], [u], h, hc =>
    obtain rfl := Option.some.inj h
    refine ⟨u, rfl, ⟨[], ?_, Reps.none _ _⟩, fun b hb => ?_⟩
    · rw [show u = _ from hc.1]; exact own_nil _ _ _ _
    · rw [show u = _ from hc.1] at hb; cases hb
theorem outI_ok {W0 : Base} {E : Env} {s : St} {w : World} (hs : SimS W0 E s w) : ∀ {l : List Item} {cells : List AV} {vals : List Value} {x : itemsT l}, outI s l cells = some x → All2 (VB E w) cells vals → RIs W0.W.heap.size w E.F l x vals
  | [], [], [], _, _, _ => rfl
  | [.im k], cells, vals, x, h, hc => prj_rd hs (F := E.F) (fun _ q => q) (any := false) (fun q => by cases q) h hc
  | [.own k T], cells, vals, x, h, hc => ownOut_ok hs h hc
  | .im k :: b :: l, cells, vals, x, h, hc => by
    simp only [outI] at h
    split at h
    · rename_i y z h1 h2
      obtain rfl := Option.some.inj h
      exact ⟨vals.take k.sz, vals.drop k.sz, (List.take_append_drop _ _).symm, prj_rd hs (F := E.F) (fun _ q => q) (any := false) (fun q => by cases q) h1 (hc.take _), outI_ok hs h2 (hc.drop _)⟩
    · cases h
  | .own k T :: b :: l, cells, vals, x, h, hc => by
    simp only [outI] at h
    split at h
    · rename_i y z h1 h2
      obtain rfl := Option.some.inj h
      exact ⟨vals.take 1, vals.drop 1, (List.take_append_drop _ _).symm, ownOut_ok hs h1 (hc.take _), outI_ok hs h2 (hc.drop _)⟩
    · cases h
theorem owns_all2 {E : Env} {w : World} : ∀ {l : List Item} {cells : List AV} {vals : List Value}, All2 (VB E w) cells vals → All2 (VB E w) (ownCells l cells) (owns l vals)
  | [], _, _, _ => trivial
  | .im k :: l, cells, vals, h => owns_all2 (l := l) (h.drop k.sz)
  | .own _ _ :: l, cells, vals, h => (h.take 1).append (owns_all2 (l := l) (h.drop 1))
/-- Rows of one's own that are all different. -/
def apartA (s : St) : List AV → Bool
  | [] => true
  | .own t :: l => (find t s.ents).isSome && !memN t (l.flatMap tagsA) && apartA s l
  | .val (.slice none 0 0) :: l => apartA s l
  | _ => false
theorem memN_flat {t : Nat} : ∀ {l : List AV} {m : List Nat}, memN t (l.flatMap tagsA ++ m) = false → ∀ c ∈ l, c ≠ .own t
  | c :: l, m, h, d, hd => by
    intro e
    rcases List.mem_cons.1 hd with rfl | hd
    · subst e
      simp only [List.flatMap_cons, tagsA, List.cons_append, List.nil_append, memN, Nat.beq_refl, cond_true] at h
      cases h
    · rw [List.flatMap_cons, List.append_assoc] at h
      have tail : ∀ (a : List Nat) {b : List Nat}, memN t (a ++ b) = false → memN t b = false := by
        intro a
        induction a with
        | nil => intro b h; exact h
        | cons u a ih =>
          intro b h
          simp only [List.cons_append, memN] at h
          cases hb : Nat.beq t u with
          | true => rw [hb] at h; cases h
          | false => rw [hb] at h; exact ih h
      exact memN_flat (tail _ h) d hd e
theorem apartA_ok {W0 : Base} {E : Env} {s : St} {w : World} (hs : SimS W0 E s w) : ∀ {l : List AV} {vs : List Value}, apartA s l = true → All2 (VB E w) l vs → vs.Pairwise (fun u v => ∀ b, blk u = some b → blk v ≠ some b)
  | [], [], _, _ => List.Pairwise.nil
  | .own t :: l, u :: vs, h, hc => by
    simp only [apartA, Bool.and_eq_true, Bool.not_eq_true'] at h
    obtain ⟨⟨h1, h2⟩, h3⟩ := h
    refine List.pairwise_cons.2 ⟨fun v hv b hb hb' => ?_, apartA_ok hs h3 hc.2⟩
    obtain ⟨e, he⟩ := Option.isSome_iff_exists.1 h1
    have ex : ∀ {l : List AV} {vs : List Value}, All2 (VB E w) l vs → apartA s l = true → v ∈ vs → ∃ c ∈ l, VB E w c v ∧ ((∃ t' e', c = .own t' ∧ find t' s.ents = some e') ∨ c = .val (.slice none 0 0)) := by
      intro l
      induction l with
      | nil => intro vs h _ hv; cases vs with
        | nil => cases hv
        | cons _ _ => exact h.elim
      | cons c l ih =>
        intro vs h ha hv
        cases vs with
        | nil => exact h.elim
        | cons x vs =>
          rcases List.mem_cons.1 hv with rfl | hv
          · refine ⟨c, List.mem_cons_self .., h.1, ?_⟩
            cases c with
            | own t' =>
              simp only [apartA, Bool.and_eq_true] at ha
              obtain ⟨e', he'⟩ := Option.isSome_iff_exists.1 ha.1.1
              exact .inl ⟨t', e', rfl, he'⟩
            | val q =>
              right
              unfold apartA at ha
              split at ha <;> first | (cases ha; done) | skip
              · rename_i heq; cases heq
              · rename_i heq; cases heq
              · rename_i heq; injection heq with heq _
            | _ => cases ha
          · have ha' : apartA s l = true := by
              unfold apartA at ha
              split at ha <;> first | (cases ha; done) | skip
              · rename_i heq; cases heq
              · rename_i heq; injection heq with _ heq; subst heq; simp only [Bool.and_eq_true] at ha; exact ha.2
              · rename_i heq; injection heq with _ heq; subst heq; exact ha
            obtain ⟨d, hd, hR⟩ := ih h.2 ha' hv
            exact ⟨d, List.mem_cons_of_mem _ hd, hR⟩
    obtain ⟨c, hcm, hcv, hcase⟩ := ex hc.2 h3 hv
    rw [show u = E.vs t from hc.1.2] at hb
    rcases hcase with ⟨t', e', rfl, he'⟩ | rfl
    · rw [show v = E.vs t' from hcv.2] at hb'
      have hne : t ≠ t' := fun q => memN_flat (m := []) (by rw [List.append_nil]; exact h2) _ hcm (by rw [q])
      exact hs.apart t t' e e' b hne he he' hb hb'
    · rw [show v = _ from hcv] at hb'
      cases hb'
  | .val (.slice none 0 0) :: l, u :: vs, h, hc => by
    refine List.pairwise_cons.2 ⟨fun v hv b hb => ?_, apartA_ok hs (l := l) h hc.2⟩
    rw [show u = _ from hc.1] at hb
    cases hb
/-- What a function returns. -/
def finish (P : Program) (sp : Spec) (res : List ResultVar) (s : St) : Option (itemsT sp.items) :=
  match resAVs P s res with
  | some avs => bif sp.ret.fits avs.length then (match flatA s sp.ret.shape avs with
    | some cells => bif (sp.alias || plainAll sp.items) && apartA (frzs s (imCells sp.items cells)) (ownCells sp.items cells) then outI (frzs s (imCells sp.items cells)) sp.items cells else none
    | none => none) else none
  | none => none
def entry (sp : Spec) (ntmps : Nat) (x : sp.argK.T) : St :=
  ⟨joinAV sp.shape (inj sp.argK x) ++ List.replicate (ntmps - (joinAV sp.shape (inj sp.argK x)).length) .dead, [], 0⟩
def finK (P : Program) (sp : Spec) (res : List ResultVar) : AEx → St → Option (itemsT sp.items) := fun e s => match e with
  | .exit _ => none
  | _ => finish P sp res s
def execF (P : Program) (fns : Fns) (ann : List (Nat × Ann)) (fuel : Nat) (sp : Spec) (ntmps : Nat) (res : List ResultVar) (c : Code) (x : sp.argK.T) : Option (itemsT sp.items) :=
  exec P fns ann fuel c (entry sp ntmps x) (finK P sp res)
theorem nth_append : ∀ (l m : List AV) (i : Nat), nth (l ++ m) i = if i < l.length then nth l i else nth m (i - l.length)
  | [], m, i => by simp
  | a :: l, m, 0 => by simp [nth]
  | a :: l, m, i + 1 => by
    simp only [List.cons_append, nth, List.length_cons]
    rw [nth_append l m i]
    simp
theorem nth_dead : ∀ (n i : Nat), nth (List.replicate n .dead) i = .dead
  | 0, i => by simp [nth]
  | n + 1, 0 => rfl
  | n + 1, i + 1 => nth_dead n i
theorem good_of {P : Program} {f : FuncId} {sp : Spec} {fn : Func} {c : Code} (hf : P.funcs[f]? = some fn) (hb : fn.body = some c) (hname : (fn.name == "runtime.NumGoroutine") = false) (hm : P.follows .mixedOrders = true)
    (hrun : ∀ (x : sp.argK.T) (r : itemsT sp.items), sp.run x = some r → ∃ (fns : Fns) (ann : List (Nat × Ann)) (fuel : Nat), fns.good P ∧ execF P fns ann fuel sp fn.ntmps fn.results.toList c x = some r) : Good P f sp := by
  refine ⟨⟨fn, hf, by rw [hb]; rfl, hname⟩, fun x r hx w F cells hF hR => ?_⟩
  obtain ⟨fns, ann, fuel, hg, hex⟩ := hrun x r hx
  refine calls_of_wp hf hb ?_
  have hcells := inj_rd (E := ⟨fun _ => undef, F, fun _ => False⟩) hR
  have hjoin := joinAV_ok (l := sp.shape) hcells
  have hl := hjoin.length
  have hs : Sim ⟨w, F⟩ ⟨fun _ => undef, F, fun _ => False⟩ (entry sp fn.ntmps x) { tmps := (joinA sp.shape cells).toArray ++ Array.replicate (fn.ntmps - (joinA sp.shape cells).toArray.size) undef, defers := [] } w := by
    refine ⟨⟨Below.refl _ _, hF, fun b q => .inl q, fun _ q => q.elim, fun t e h => (by cases h), fun t t' e e' b _ h => (by cases h)⟩, rfl, by simp [entry, hl], fun i => ?_⟩
    simp only [entry]
    rw [nth_append, nth_dead]
    split
    · rename_i hi
      have hget : ∀ {l : List AV} {m : List Value} (i : Nat), All2 (VC ⟨fun _ => undef, F, fun _ => False⟩ w) l m → i < l.length → ∃ v, m[i]? = some v ∧ VC ⟨fun _ => undef, F, fun _ => False⟩ w (nth l i) v := fun i h hi => h.nth hi
      obtain ⟨v, h1, h2⟩ := hget i hjoin hi
      have : ((joinA sp.shape cells).toArray ++ Array.replicate (fn.ntmps - (joinA sp.shape cells).toArray.size) undef).getD i undef = v := by
        rw [Array.getD_eq_getD_getElem?, Array.getElem?_append_left (by simp; omega)]
        simp [h1]
      rw [this]
      exact h2.r
    · trivial
  have hwp := exec_ok hg hm c _ _ _ _ _ hex hs
  have fin : ∀ (s : St) (E : Env) (a : Act) (w' : World), finish P sp fn.results.toList s = some r → Sim ⟨w, F⟩ E s a w' → a.defers = [] ∧ ∃ v, (results fn a.tmps).run P w' = .ok v w' ∧ Ends w F sp r (.returned v) w' := by
    intro s E a w' hfin hs'
    refine ⟨hs'.defers, ?_⟩
    unfold finish at hfin
    split at hfin
    · rename_i avs havs
      cases hfit : sp.ret.fits avs.length with
      | false => rw [hfit] at hfin; cases hfin
      | true =>
        rw [hfit] at hfin
        simp only [cond_true] at hfin
        split at hfin
        · rename_i cells' hcells'
          cases hcnd : (sp.alias || plainAll sp.items) && apartA (frzs s (imCells sp.items cells')) (ownCells sp.items cells') with
          | false => rw [hcnd] at hfin; cases hfin
          | true =>
            rw [hcnd] at hfin
            simp only [Bool.and_eq_true] at hcnd
            obtain ⟨vs, hvs, hrs, hlen⟩ := resAVs_ok hs' havs
            obtain ⟨vals, hvals, hj⟩ := flatA_ok hs'.toSimS hcells' hvs
            obtain ⟨E1, h1, st1⟩ := hs'.frzs (imCells sp.items cells')
            have hv1 := hvals.imp fun _ _ q => VB.step st1 q
            have hri := outI_ok h1.toSimS hfin hv1
            have hpw := apartA_ok h1.toSimS hcnd.2 (owns_all2 (l := sp.items) hv1)
            have hval := run_results hrs
            rw [ret_val hj (by rw [← hvs.length]; exact hfit)] at hval
            refine ⟨_, hval, ?_⟩
            cases ha : sp.alias with
            | true => exact ⟨vals, E1.F, rfl, h1.below, fun b q => ⟨h1.fz b q, (h1.old b q).imp (fun z => ⟨ha, z⟩) id⟩, hri, hpw⟩
            | false =>
              rw [ha] at hcnd
              exact ⟨vals, fun _ => False, rfl, h1.below, fun _ q => q.elim, RIs.anyF hcnd.1 hri, hpw⟩
        · cases hfin
    · cases hfin
  refine wp_mono hwp ?_
  intro e a w' hp
  cases e with
  | normal => obtain ⟨s, E, hk, hs'⟩ := hp; exact fin s E a w' hk hs'
  | ret => obtain ⟨s, E, hk, hs'⟩ := hp; exact fin s E a w' hk hs'
  | exit id => obtain ⟨s, E, hk, _⟩ := hp; cases hk
  | goto l => exact hp.elim
  | panic ch => exact hp.elim
  | outgrown => exact hp.elim
end Go.Vx

