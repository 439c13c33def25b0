/- Calls whose results are new in memory; all operations; regions. -/
import Derived.Test.YtcanekmlabehgaaVk
namespace Go.Vx
open Go.RowKit Go.Proofs.YtcanekmlabehgaaW.PrintWords
set_option linter.unusedVariables false
set_option linter.unusedSimpArgs false
section
variable {R : Type}
theorem frz_tmps (s : St) (t : Nat) : (frz s t).tmps = s.tmps := by unfold frz; split <;> rfl
/-- A part of a slice; a row of one's own is not written any more. -/
def oSlice (P : Program) (o : Oper) (s : St) (T : TypeId) (x : Operand) (lo hi : Option Operand) (k : St → Option R) : Option R :=
  match evl s x with
  | .own t => qSlice P (frz s t) T x lo hi fun av => k ((frz s t).put o.dst av)
  | _ => qSlice P s T x lo hi fun av => k (s.put o.dst av)
theorem oSlice_ok {P : Program} {o : Oper} {s : St} {T : TypeId} {x : Operand} {lo hi : Option Operand} {k : St → Option R} {r : R} (ho : o.op = .slice T x lo hi none) (h : oSlice P o s T x lo hi k = some r) : OOk P o s k r := by
  unfold oSlice at h
  split at h
  · rename_i t _
    obtain ⟨av, hk, hq⟩ := qSlice_ok ho h
    refine ⟨_, hk, fun W0 E a w hs K Q hK => ?_⟩
    obtain ⟨E1, h1, _, _⟩ := hs.frz t
    exact hq.o W0 E1 a w h1 K Q hK
  · obtain ⟨av, hk, hq⟩ := qSlice_ok ho h
    exact ⟨_, hk, hq.o⟩
/-- A new thing, in the world as it is. -/
theorem Sim.here {W0 : Base} {E : Env} {s : St} {a : Act} {w : World} (h : Sim W0 E s a w) {e : Ent} {v : Value} (hok : EntOK W0 (E.add s.nx v E.F) w v e) (hap : ∀ t e b, find t s.ents = some e → blk (E.vs t) = some b → blk v ≠ some b) :
    Sim W0 (E.add s.nx v E.F) (s.add e) a w ∧ Stp E w (E.add s.nx v E.F) w := by
  have hn : ¬ E.U s.nx := fun q => Nat.lt_irrefl _ (h.used _ q)
  have st : Stp E w (E.add s.nx v E.F) w := Stp.add hn (fun _ q => q) (fun _ _ => rfl)
  refine ⟨h.turn st ?_ rfl, st⟩
  refine h.toSimS.turn st h.below h.fz h.old ?_ ?_ ?_
  · intro t ht
    rcases ht with ht | rfl
    · exact Nat.lt_succ_of_lt (h.used t ht)
    · exact Nat.lt_succ_self _
  · intro t e' ht
    simp only [St.add, find] at ht
    by_cases q : t = s.nx
    · subst q
      simp only [Nat.beq_refl, cond_true] at ht
      obtain rfl := Option.some.inj ht
      exact .inr ⟨.inr rfl, by rw [Env.add_new]; exact hok⟩
    · rw [beq_ne q] at ht
      exact .inl ⟨ht, fun b hbk => ⟨rfl, fun q => q⟩⟩
  · intro t t' e1 e2 b hne h1 h2 hb1 hb2
    simp only [St.add, find] at h1 h2
    simp only [Env.add] at hb1 hb2
    by_cases q1 : t = s.nx
    · have q2 : t' ≠ s.nx := fun e => hne (q1.trans e.symm)
      rw [beq_ne q2] at h2
      rw [if_pos q1] at hb1
      rw [if_neg q2] at hb2
      exact hap t' e2 b h2 hb2 hb1
    · rw [beq_ne q1] at h1
      rw [if_neg q1] at hb1
      by_cases q2 : t' = s.nx
      · rw [if_pos q2] at hb2
        exact hap t e1 b h1 hb1 hb2
      · rw [if_neg q2] at hb2
        rw [beq_ne q2] at h2
        exact h.apart t t' e1 e2 b hne h1 h2 hb1 hb2
def resA : (l : List Item) → itemsT l → St → List AV × St
  | [], _, s => ([], s)
  | [.im k], x, s => (inj k x, s)
  | [.own k T], xs, s => ([.own s.nx], s.add (.row ⟨k, T, false, xs⟩))
  | .im k :: b :: l, x, s => (inj k x.1 ++ (resA (b :: l) x.2 s).1, (resA (b :: l) x.2 s).2)
  | .own k T :: b :: l, x, s => (.own s.nx :: (resA (b :: l) x.2 (s.add (.row ⟨k, T, false, x.1⟩))).1, (resA (b :: l) x.2 (s.add (.row ⟨k, T, false, x.1⟩))).2)
theorem own_here {W0 : Base} {E : Env} {s : St} {a : Act} {w : World} {B : Nat} {F' : Nat → Prop} (hs : Sim W0 E s a w) (hF : ∀ b, F' b → E.F b) (hB : W0.W.heap.size ≤ B) {k : K} {T : TypeId} {xs : List k.T} {v : Value}
    (hr : ∃ cells, w.ownsRow B T k.sz v (List.length xs) cells ∧ Reps (Rd w F' k) k.sz xs cells) (hnF : ∀ b, blk v = some b → ¬ E.F b) (hap : ∀ t e b, find t s.ents = some e → blk (E.vs t) = some b → blk v ≠ some b) :
    Sim W0 (E.add s.nx v E.F) (s.add (.row ⟨k, T, false, xs⟩)) a w ∧ Stp E w (E.add s.nx v E.F) w := by
  obtain ⟨cells, ho, hreps⟩ := hr
  exact hs.here ⟨⟨cells, own_weaken ho hB, hreps.imp_ fun _ _ q => Rd.step (fun _ _ => rfl) hF q⟩, fun b hb => ⟨fun q => absurd q (hnF b hb), fun q => by cases q⟩⟩ hap
theorem resA_ok {W0 : Base} {a : Act} {w : World} {B : Nat} {F' : Nat → Prop} (hB : W0.W.heap.size ≤ B) : ∀ {l : List Item} {x : itemsT l} {cs : List Value} {E : Env} {s : St}, Sim W0 E s a w → (∀ b, F' b → E.F b) → RIs B w F' l x cs →
    (∀ v ∈ owns l cs, ∀ b, blk v = some b → ¬ E.F b ∧ ∀ t e, find t s.ents = some e → blk (E.vs t) ≠ some b) → (owns l cs).Pairwise (fun u v => ∀ b, blk u = some b → blk v ≠ some b) →
    ∃ E', Sim W0 E' (resA l x s).2 a w ∧ Stp E w E' w ∧ All2 (VB E' w) (resA l x s).1 cs
  | [], x, cs, E, s, hs, hF, hr, hap, hpw => ⟨E, hs, Stp.refl _ _, by rw [show cs = [] from hr]; trivial⟩
  | [.im k], x, cs, E, s, hs, hF, hr, hap, hpw => ⟨E, hs, Stp.refl _ _, inj_rd (Rd.step (fun _ _ => rfl) hF hr)⟩
  | [.own k T], xs, cs, E, s, hs, hF, hr, hap, hpw => by
    obtain ⟨v, rfl, hrow, _⟩ := hr
    have h0 := hap v (by simp [owns])
    obtain ⟨h1, st⟩ := own_here hs hF hB hrow (fun b hb => (h0 b hb).1) (fun t e b ht hb hv => (h0 b hv).2 t e ht hb)
    exact ⟨_, h1, st, ⟨.inr rfl, by simp [Env.add]⟩, trivial⟩
  | .im k :: b :: l, x, cs, E, s, hs, hF, hr, hap, hpw => by
    obtain ⟨c0, c1, rfl, hr0, hr1⟩ := hr
    have hd : (c0 ++ c1).drop k.sz = c1 := by rw [← hr0.len, List.drop_left]
    simp only [owns, hd] at hap hpw
    obtain ⟨E', h1, st, hc⟩ := resA_ok hB hs hF hr1 hap hpw
    exact ⟨E', h1, st, ((inj_rd (Rd.step (fun _ _ => rfl) hF hr0)).imp fun _ _ q => VB.step st q).append hc⟩
  | .own k T :: b :: l, x, cs, E, s, hs, hF, hr, hap, hpw => by
    obtain ⟨c0, c1, rfl, hr0, hr1⟩ := hr
    obtain ⟨v, rfl, hrow, _⟩ := hr0
    simp only [owns, List.cons_append, List.nil_append, List.take_succ_cons, List.take_zero, List.drop_succ_cons, List.drop_zero] at hap hpw
    rw [List.pairwise_cons] at hpw
    have h0 := hap v (by simp)
    obtain ⟨h1, st⟩ := own_here hs hF hB hrow (fun b hb => (h0 b hb).1) (fun t e b ht hb hv => (h0 b hv).2 t e ht hb)
    obtain ⟨E', h2, st2, hc⟩ := resA_ok (x := x.2) hB h1 hF hr1 (fun u hu c hc => by
      obtain ⟨p, q⟩ := hap u (List.mem_cons_of_mem _ hu) c hc
      refine ⟨p, fun t e ht hb => ?_⟩
      simp only [St.add, find] at ht
      simp only [Env.add] at hb
      by_cases q1 : t = s.nx
      · rw [if_pos q1] at hb
        exact hpw.1 u hu c hb hc
      · rw [beq_ne q1] at ht
        rw [if_neg q1] at hb
        exact q t e ht hb) hpw.2
    exact ⟨E', h2, st.trans st2, VB.step (av := .own s.nx) st2 ⟨.inr rfl, by simp [Env.add]⟩, hc⟩
/-- A call, its results being new in memory or shared. -/
def oCall (fns : Fns) (o : Oper) (s : St) (fo : Operand) (args : Array Operand) (k : St → Option R) : Option R :=
  match evl s fo with
  | .fn f [] => match fns.get f with
    | some sp => match flatA s sp.shape (args.toList.map (evl s)) with
      | some cells => match prj (bif sp.alias then frzs s cells else s) (!sp.alias) sp.argK cells with
        | some x => obd (sp.run x) fun r => k ((resA sp.items r (bif sp.alias then frzs s cells else s)).2.put o.dst (retA sp.ret (resA sp.items r (bif sp.alias then frzs s cells else s)).1))
        | none => none
      | none => none
    | none => none
  | _ => none
theorem oCall_ok {P : Program} {fns : Fns} (hg : fns.good P) {o : Oper} {s : St} {fo : Operand} {args : Array Operand} {ats : Array TypeId} {k : St → Option R} {r : R} (ho : o.op = .call { callee := .value fo, args := args, argTypes := ats }) (h : oCall fns o s fo args k = some r) : OOk P o s k r := by
  unfold oCall at h
  split at h
  · rename_i f hf
    split at h
    · rename_i sp hsp
      split at h
      · rename_i cells hcells
        split at h
        · rename_i x hx
          obtain ⟨y, hy, hk⟩ := Option.bind_eq_some_iff.1 h
          obtain ⟨s1, hs1e⟩ : ∃ s1, (bif sp.alias then frzs s cells else s) = s1 := ⟨_, rfl⟩
          rw [hs1e] at hx hk
          refine ⟨_, hk, fun W0 E a w hs K Q hK => ?_⟩
          obtain ⟨hen, hends⟩ := hg f sp hsp
          obtain ⟨fn, e1, e2, e3⟩ := hen
          have hfo : a.eval fo = .func (.func f) #[] #[] := by
            have := hs.ev fo
            rw [hf] at this
            obtain ⟨vals, e, hc⟩ := this
            match vals, hc with
            | [], _ => exact e
          obtain ⟨vals, hc, hj⟩ := flatA_ok hs.toSimS hcells (evls_ok hs args.toList)
          have hargs : args.map a.eval ++ #[] = (joinA sp.shape vals).toArray := by
            rw [hj, Array.append_empty, ← Array.toList_map, Array.toArray_toList]
          have hs1 : ∃ E1, Sim W0 E1 s1 a w ∧ Stp E w E1 w := by
            rw [← hs1e]
            cases sp.alias with
            | true => exact hs.frzs cells
            | false => exact ⟨E, hs, Stp.refl _ _⟩
          obtain ⟨E1, h1, st1⟩ := hs1
          have hc1 := hc.imp fun _ _ q => VB.step st1 q
          have hcall : ∃ F : Nat → Prop, (∀ b, F b → b < w.heap.size) ∧ Rd w F sp.argK x vals ∧ (sp.alias = true → F = E1.F) := by
            cases ha : sp.alias with
            | true =>
              rw [ha] at hx
              refine ⟨E1.F, h1.fz, prj_rd h1.toSimS (fun _ q => q) (fun q => by cases q) hx ?_, fun _ => rfl⟩
              exact hc1
            | false =>
              rw [ha] at hx
              exact ⟨fun b => b < w.heap.size, fun _ q => q, prj_rd h1.toSimS (F := fun b => b < w.heap.size) (fun b q => h1.fz b q) (fun _ b q => q) hx hc1, fun q => by cases q⟩
          obtain ⟨F, hFlt, hR, hFa⟩ := hcall
          unfold Oper.wp
          rw [run_call e1 e2 e3 ho hfo w, hargs]
          refine (hends x y hy w F vals hFlt hR).mono ?_
          rintro e w2 ⟨rc, F', rfl, hb2, hF', hri, hpw⟩
          have hFx : ∀ b, F' b → E1.F b ∨ w.heap.size ≤ b := fun b q => by
            rcases (hF' b q).2 with ⟨q1, q2⟩ | q1
            · rw [hFa q1] at q2; exact .inl q2
            · exact .inr q1
          have st2 : Stp E1 w ⟨E1.vs, fun b => E1.F b ∨ F' b, E1.U⟩ w2 := ⟨fun _ _ => rfl, fun _ q => q, fun _ q => .inl q, fun b q => hb2.block b (h1.fz b q)⟩
          have hs2 : Sim W0 ⟨E1.vs, fun b => E1.F b ∨ F' b, E1.U⟩ s1 a w2 := by
            refine h1.turn st2 ?_ rfl
            refine h1.toSimS.turn st2 (below_then h1.below h1.below.size hb2) (fun b q => ?_) (fun b q => ?_) h1.used (fun t e ht => .inl ⟨ht, fun b hbk => ?_⟩) h1.apart
            · rcases q with q | q
              · exact Nat.lt_of_lt_of_le (h1.fz b q) hb2.size
              · exact (hF' b q).1
            · rcases q with q | q
              · exact h1.old b q
              · rcases hFx b q with q | q
                · exact h1.old b q
                · have := h1.below.size; exact .inr (by omega)
            · obtain ⟨_, hok⟩ := h1.ents t e ht
              have hlt := (hok.blk_lt hbk).2
              refine ⟨hb2.block b hlt, fun q => ?_⟩
              rcases q with q | q
              · exact q
              · rcases hFx b q with q | q
                · exact q
                · omega
          have hown : ∀ (l : List Item) (z : itemsT l) (cs : List Value), RIs w.heap.size w2 F' l z cs → ∀ v ∈ owns l cs, ∀ b, blk v = some b → w.heap.size ≤ b ∧ ¬ F' b := by
            intro l
            induction l with
            | nil => intro z cs _ v hv; simp [owns] at hv
            | cons i l ih =>
              intro z cs hz v hv b hb
              have hz' : ∃ (c0 c1 : List Value) (z0 : i.T), cs = c0 ++ c1 ∧ RI w.heap.size w2 F' i z0 c0 ∧ ∃ z1 : itemsT l, (l = [] ∧ c1 = []) ∨ RIs w.heap.size w2 F' l z1 c1 := by
                cases l with
                | nil => exact ⟨cs, [], z, by simp, hz, (), .inl ⟨rfl, rfl⟩⟩
                | cons j l =>
                  obtain ⟨c0, c1, e, h0, h1⟩ := hz
                  exact ⟨c0, c1, z.1, e, h0, z.2, .inr h1⟩
              obtain ⟨c0, c1, z0, rfl, h0, z1, h1⟩ := hz'
              have tl : v ∈ owns l c1 → w.heap.size ≤ b ∧ ¬ F' b := fun hm => by
                rcases h1 with ⟨rfl, rfl⟩ | h1
                · simp [owns] at hm
                · exact ih z1 c1 h1 v hm b hb
              cases i with
              | im k =>
                simp only [owns] at hv
                rw [show (c0 ++ c1).drop k.sz = c1 by rw [← Rd.len h0, List.drop_left]] at hv
                exact tl hv
              | own k T =>
                obtain ⟨u, rfl, ⟨cells', ho', _⟩, hnF⟩ := h0
                simp only [owns] at hv
                rcases List.mem_append.1 hv with hv | hv
                · obtain rfl : v = u := by simpa using hv
                  refine ⟨own_base ho' b ?_, hnF b hb⟩
                  rw [← own_blk ho']; exact hb
                · exact tl hv
          obtain ⟨E3, h3, st3, hcc⟩ := resA_ok (B := w.heap.size) (F' := F') h1.below.size hs2 (fun b q => .inr q) hri (fun v hv b hb => by
            obtain ⟨q1, q2⟩ := hown _ _ _ hri v hv b hb
            refine ⟨fun q => ?_, fun t e ht hbt => ?_⟩
            · rcases q with q | q
              · have := h1.fz b q; omega
              · exact q2 q
            · obtain ⟨_, hok⟩ := h1.ents t e ht
              have := (hok.blk_lt hbt).2
              omega) hpw
          exact hK E3 _ _ (h3.put o.dst (retA_ok sp.ret hcc))
        · cases h
      · cases h
    · cases h
  · cases h
/-- All operations. -/
def opx (P : Program) (fns : Fns) (o : Oper) (s : St) (k : St → Option R) : Option R :=
  match o.op with
  | .box T x => oBox o s T x k
  | .alloc T => oAlloc P o s T k
  | .store T ad x => oStore P o s T ad x k
  | .buildSlice T len parts => oBuildSlice P o s T len parts k
  | .makeSlice T x y => oMake P o s T x y k
  | .slice T x lo hi none => oSlice P o s T x lo hi k
  | .call { callee := .builtin .append, args := ⟨[x, y]⟩, argTypes := ⟨[T, U]⟩ } => if h : T = U then oAppend P o s T x y k else none
  | .call { callee := .value fo, args := args, argTypes := _ } => oCall fns o s fo args k
  | _ => opq P fns o s fun av => k (s.put o.dst av)
theorem opx_ok {P : Program} {fns : Fns} (hg : fns.good P) {o : Oper} {s : St} {k : St → Option R} {r : R} (h : opx P fns o s k = some r) : OOk P o s k r := by
  have quiet : (opq P fns o s fun av => k (s.put o.dst av)) = some r → OOk P o s k r := fun h => by
    obtain ⟨av, hk, hq⟩ := opq_ok hg h
    exact ⟨_, hk, hq.o⟩
  unfold opx at h
  split at h
  · rename_i ho; exact oBox_ok ho h
  · rename_i ho; exact oAlloc_ok ho h
  · rename_i ho; exact oStore_ok ho h
  · rename_i ho; exact oBuildSlice_ok ho h
  · rename_i ho; exact oMake_ok ho h
  · rename_i ho; exact oSlice_ok ho h
  · rename_i ho
    split at h
    · rename_i e
      subst e
      exact oAppend_ok ho h
    · cases h
  · rename_i ho; exact oCall_ok hg ho h
  · exact quiet h

/-! ### regions -/
theorem Sim.same {W0 : Base} {E : Env} {s : St} {a : Act} {w : World} (h : Sim W0 E s a w) (d : Nat) {v : Value} {av : AV} (hv : nth s.tmps d = .val v) (ha : VR E w av v) : Sim W0 E (s.put (some d) av) a w := by
  refine ⟨⟨h.below, h.fz, h.old, h.used, h.ents, h.apart⟩, h.defers, ?_, fun i => ?_⟩
  · show a.tmps.size = (setN s.tmps d av).length
    rw [setN_length]; exact h.tl
  · show VR E w (nth (setN s.tmps d av) i) _
    rw [nth_setN]
    split
    · rename_i q
      have := h.slots d
      rw [hv] at this
      rw [q.1, show a.tmps.getD d undef = v from this]
      exact ha
    · exact h.slots i
/-- Operations in a row, guarded ones parted by their guards. -/
def runL (P : Program) (fns : Fns) (ops : Array Oper) : List Oper → St → (St → Option R) → Option R
  | [], s, k => k s
  | o :: rest, s, k => match o.guard with
    | none => opx P fns o s fun s' => runL P fns ops rest s' k
    | some (g, want) => match (ops[g]?).bind (·.dst) with
      | some d => match nth s.tmps d with
        | .val (.bool b) => oif (b = true)
          (bif want then opx P fns o (s.put (some d) (.val (.bool true))) fun s' => runL P fns ops rest s' k else runL P fns ops rest ((s.put (some d) (.val (.bool true))).put o.dst (.val undef)) k)
          (bif want then runL P fns ops rest ((s.put (some d) (.val (.bool false))).put o.dst (.val undef)) k else opx P fns o (s.put (some d) (.val (.bool false))) fun s' => runL P fns ops rest s' k)
        | .val (.tuple _) => runL P fns ops rest (s.put o.dst (.val undef)) k
        | _ => none
      | none => none
theorem slot_get {W0 : Base} {E : Env} {s : St} {a : Act} {w : World} (h : Sim W0 E s a w) {d : Nat} {v : Value} (hv : nth s.tmps d = .val v) : a.tmps.getD d undef = v := by
  have := h.slots d
  rw [hv] at this
  exact this
theorem yielded_bool {a : Act} {ops : Array Oper} {g d : Nat} {b : Bool} (hd : (ops[g]?).bind (·.dst) = some d) (hv : a.tmps.getD d undef = .bool b) : yielded ops a.tmps g = some b := by
  unfold yielded
  rw [hd]
  simp only [Option.bind_some]
  rw [Array.getD_eq_getD_getElem?] at hv
  cases hq : a.tmps[d]? with
  | none => rw [hq] at hv; cases hv
  | some u => rw [hq] at hv; simp only [Option.getD_some] at hv; rw [hv]
theorem yielded_tuple {a : Act} {ops : Array Oper} {g d : Nat} {t : Array Value} (hd : (ops[g]?).bind (·.dst) = some d) (hv : a.tmps.getD d undef = .tuple t) : yielded ops a.tmps g = none := by
  unfold yielded
  rw [hd]
  simp only [Option.bind_some]
  rw [Array.getD_eq_getD_getElem?] at hv
  cases hq : a.tmps[d]? with
  | none => rfl
  | some u => rw [hq] at hv; simp only [Option.getD_some] at hv; rw [hv]
theorem runL_ok {P : Program} {fns : Fns} (hg : fns.good P) {ops : Array Oper} {k : St → Option R} {r : R} {W0 : Base} {Q : Exit → Act → World → Prop} (hQ : ∀ s E a w, k s = some r → Sim W0 E s a w → Q .normal a w) :
    ∀ (l : List Oper) (s : St) (E : Env) (a : Act) (w : World), runL P fns ops l s k = some r → Sim W0 E s a w → wpList P ops Q l a w
  | [], s, E, a, w, h, hs => hQ s E a w h hs
  | o :: rest, s, E, a, w, h, hs => by
    have step : ∀ (s1 : St) (E1 : Env), Sim W0 E1 s1 a w → (opx P fns o s1 fun s' => runL P fns ops rest s' k) = some r → Region.wanted o (yielded ops a.tmps) = true → wpList P ops Q (o :: rest) a w := fun s1 E1 h1 hx hw => by
      obtain ⟨s', hk, hto⟩ := opx_ok hg hx
      refine wpList_step fun K hK => ?_
      rw [if_pos hw]
      exact hto W0 E1 a w h1 K Q fun E' a' w' h' => hK _ _ (runL_ok hg hQ rest s' E' a' w' hk h')
    have skip : ∀ (s1 : St) (E1 : Env), Sim W0 E1 s1 a w → runL P fns ops rest (s1.put o.dst (.val undef)) k = some r → Region.wanted o (yielded ops a.tmps) = false → wpList P ops Q (o :: rest) a w := fun s1 E1 h1 hx hw => by
      refine wpList_step fun K hK => ?_
      rw [if_neg (by rw [hw]; decide)]
      exact hK _ _ (runL_ok hg hQ rest _ E1 _ _ hx (h1.put o.dst (av := .val undef) rfl))
    unfold runL oif at h
    split at h
    · rename_i hgd
      exact step s E hs h (by simp [Region.wanted, hgd])
    · rename_i g want hgd
      split at h
      · rename_i d hd
        split at h
        · rename_i b hb
          have hy := yielded_bool hd (slot_get hs hb)
          split at h
          · rename_i hbt
            have h1 := hs.same d (av := .val (.bool true)) hb (by rw [hbt]; rfl)
            cases hwt : want with
            | true =>
              rw [hwt] at h
              exact step _ _ h1 h (by simp [Region.wanted, hgd, hy, hbt, hwt])
            | false =>
              rw [hwt] at h
              exact skip _ _ h1 h (by simp [Region.wanted, hgd, hy, hbt, hwt])
          · rename_i hbf
            have hbf' : b = false := by simpa using hbf
            have h1 := hs.same d (av := .val (.bool false)) hb (by rw [hbf']; rfl)
            cases hwt : want with
            | true =>
              rw [hwt] at h
              exact skip _ _ h1 h (by simp [Region.wanted, hgd, hy, hbf', hwt])
            | false =>
              rw [hwt] at h
              exact step _ _ h1 h (by simp [Region.wanted, hgd, hy, hbf', hwt])
        · rename_i t hb
          have hy := yielded_tuple hd (slot_get hs hb)
          exact skip s E hs h (by simp [Region.wanted, hgd, hy])
        · cases h
      · cases h
/-- Quiet operations in a row. -/
def runQ (P : Program) (fns : Fns) (ops : Array Oper) : List Oper → St → (St → Option R) → Option R
  | [], s, k => k s
  | o :: rest, s, k => match o.guard with
    | none => opq P fns o s fun av => runQ P fns ops rest (s.put o.dst av) k
    | some (g, want) => match (ops[g]?).bind (·.dst) with
      | some d => match nth s.tmps d with
        | .val (.bool b) => oif (b = true)
          (bif want then opq P fns o (s.put (some d) (.val (.bool true))) fun av => runQ P fns ops rest ((s.put (some d) (.val (.bool true))).put o.dst av) k else runQ P fns ops rest ((s.put (some d) (.val (.bool true))).put o.dst (.val undef)) k)
          (bif want then runQ P fns ops rest ((s.put (some d) (.val (.bool false))).put o.dst (.val undef)) k else opq P fns o (s.put (some d) (.val (.bool false))) fun av => runQ P fns ops rest ((s.put (some d) (.val (.bool false))).put o.dst av) k)
        | .val (.tuple _) => runQ P fns ops rest (s.put o.dst (.val undef)) k
        | _ => none
      | none => none
theorem runQ_ok {P : Program} {fns : Fns} (hg : fns.good P) {ops : Array Oper} {k : St → Option R} {r : R} {W0 : Base} {E : Env} {w : World} :
    ∀ (l : List Oper) (s : St) (a : Act), runQ P fns ops l s k = some r → Sim W0 E s a w → wpQuiet P ops (Below w.heap.size w) (fun a' => ∃ s', k s' = some r ∧ Sim W0 E s' a' w) l a
  | [], s, a, h, hs => ⟨s, h, hs⟩
  | o :: rest, s, a, h, hs => by
    have step : ∀ (s1 : St), Sim W0 E s1 a w → (opq P fns o s1 fun av => runQ P fns ops rest (s1.put o.dst av) k) = some r → Region.wanted o (yielded ops a.tmps) = true → wpQuiet P ops (Below w.heap.size w) (fun a' => ∃ s', k s' = some r ∧ Sim W0 E s' a' w) (o :: rest) a := fun s1 h1 hx hw => by
      obtain ⟨av, hk, hq⟩ := opq_ok hg hx
      obtain ⟨v, hv, hall⟩ := hq W0 E a w h1
      unfold wpQuiet
      rw [if_pos hw]
      exact ⟨v, hall, runQ_ok hg rest _ _ hk (h1.put o.dst hv)⟩
    have skip : ∀ (s1 : St), Sim W0 E s1 a w → runQ P fns ops rest (s1.put o.dst (.val undef)) k = some r → Region.wanted o (yielded ops a.tmps) = false → wpQuiet P ops (Below w.heap.size w) (fun a' => ∃ s', k s' = some r ∧ Sim W0 E s' a' w) (o :: rest) a := fun s1 h1 hx hw => by
      unfold wpQuiet
      rw [if_neg (by rw [hw]; decide)]
      exact runQ_ok hg rest _ _ hx (h1.put o.dst (av := .val undef) rfl)
    unfold runQ oif at h
    split at h
    · rename_i hgd
      exact step s hs h (by simp [Region.wanted, hgd])
    · rename_i g want hgd
      split at h
      · rename_i d hd
        split at h
        · rename_i b hb
          have hy := yielded_bool hd (slot_get hs hb)
          split at h
          · rename_i hbt
            have h1 := hs.same d (av := .val (.bool true)) hb (by rw [hbt]; rfl)
            cases hwt : want with
            | true =>
              rw [hwt] at h
              exact step _ h1 h (by simp [Region.wanted, hgd, hy, hbt, hwt])
            | false =>
              rw [hwt] at h
              exact skip _ h1 h (by simp [Region.wanted, hgd, hy, hbt, hwt])
          · rename_i hbf
            have hbf' : b = false := by simpa using hbf
            have h1 := hs.same d (av := .val (.bool false)) hb (by rw [hbf']; rfl)
            cases hwt : want with
            | true =>
              rw [hwt] at h
              exact skip _ h1 h (by simp [Region.wanted, hgd, hy, hbf', hwt])
            | false =>
              rw [hwt] at h
              exact step _ h1 h (by simp [Region.wanted, hgd, hy, hbf', hwt])
        · rename_i t hb
          have hy := yielded_tuple hd (slot_get hs hb)
          exact skip s hs h (by simp [Region.wanted, hgd, hy])
        · cases h
      · cases h
end
end Go.Vx
