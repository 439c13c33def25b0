-- PRINTED by print.py (a twelfth state) out of the translation. Not trusted: Lean checks it.
import Derived.Test.YtcanekmlabehgaaP46x0
import Derived.Test.YtcanekmlabehgaaP46x1
namespace Go.Proofs.Ytcanekmlabehgaa.P46
open Go.RowKit Go.Proofs.YtcanekmlabehgaaW.PrintWords Go.Proofs.YtcanekmlabehgaaW.PrintLast Go.Proofs.YtcanekmlabehgaaW.PrintMore
attribute [local go_sem] max2_int min2_int max_two min_two max_three min_three max_four min_four   -- for this text's walks alone
set_option linter.unusedVariables false
set_option linter.unusedSimpArgs false

/-! ### journal_Read: function 80 -/

section
variable {P : Program}
/-- What an operation does in a round of a range over a function is what it does elsewhere. -/
theorem inround_op {l n : Nat} {o : Oper} {a : Act} {w : World} {K K' : Act → World → Prop} {Q : Exit → Act → World → Prop} (hd : ∀ c, o.op ≠ .defer c) (h : o.wp P a w K Q) (hk : ∀ a w, K a w → K' a w) : o.wpIn (Fence.wide.inRound l) n P a w K' Q := by
  refine ⟨fun _ _ => trivial, ?_⟩
  rw [Fence.inRound_round, Oper.semAt_some l _ _ hd]
  unfold Oper.wp at h
  revert h
  generalize (execOp a.eval o).run P w = r
  intro h
  match r, h with
  | .ok (.value v) w', h => exact hk _ _ h
  | .ok .skip w', h => exact hk _ _ h
  | .ok (.defer d) w', h => exact hk _ _ h
  | .ok (.enter f args) w', h =>
    refine ⟨fun e => absurd e (by simp [Fence.inRound, Fence.wide]), CallsIn.inRound l (callsIn_wide.2 (Calls.mono h ?_))⟩
    intro e w2 he
    cases e with
    | returned v => exact hk _ _ he
    | panicked chain => exact he
    | outgrown => exact he
  | .ok (.row row args) w', h =>
    refine ⟨fun e => absurd e (by simp [Fence.inRound, Fence.wide]), fun c cs _ => ?_⟩
    obtain ⟨v, w2, r, s⟩ := h c cs
    exact ⟨v, w2, hk _ _ r, stepsIn_wide.2 s⟩
  | .ok (.round _ _ _ _ _) w', h => exact h.elim
  | .halt (.panic v) w', h => exact h
  | .halt (.exit _) w', h => exact h.elim
/-- So a list of operations. -/
theorem inround_list {l n : Nat} {ops : Array Oper} {Q : Exit → Act → World → Prop} (hL : ¬ LetsOut Q) : ∀ (rest : List Oper) (a : Act) (w : World), (∀ o ∈ rest, ∀ c, o.op ≠ .defer c) → wpList P ops Q rest a w → wpListIn (Fence.wide.inRound l) n P ops Q rest a w
  | [], a, w, _, h => h
  | o :: rest, a, w, hd, h => by
    unfold wpList at h
    unfold wpListIn
    split at h
    · rename_i hw
      rw [if_pos hw]
      rcases h with h | h
      · exact inround_op (hd o (by simp)) h (fun a w hK => inround_list hL rest a w (fun o ho => hd o (by simp [ho])) hK)
      · exact absurd h.2 hL
    · rename_i hw
      rw [if_neg hw]
      exact ⟨fun _ _ => trivial, inround_list hL rest _ w (fun o ho => hd o (by simp [ho])) h⟩
/-- A round's record, ready. -/
def readyLoop (fn : FuncId) (tm : Array Value) (ps : Array Tmp) (assign body : Code) (D : Nat) (st : LoopState) : Loop := { state := st, pending := none, fn := fn, tmps := tm, params := ps, assign := assign, body := body, defers := D }
/-- A round: the body's walk gives the contract of the call of yield. -/
theorem round_yield {n l D : Nat} {fn : FuncId} {tm : Array Value} {ps : Array Tmp} {assign body : Code} {args : Array Value} {W : World} {R : World → Prop} (a₁ : Act)
    (hl : W.heap[l]? = some (.loop (readyLoop fn tm ps assign body D .ready))) (hps : args.size = ps.size)
    (hassign : ∀ K : Act → World → Prop, K a₁ W → assign.wpIn (Fence.wide.inRound l) n P (Exit.then K (fun _ _ _ => False)) { tmps := (ps.zip args).foldl (fun t (p, v) => t.setIfInBounds p v) tm, defers := [] } W)
    (hbody : ∀ W2, W2 = W.putObj l (.loop (readyLoop fn tm ps assign body D .busy)) → body.wpIn (Fence.wide.inRound l) n P (fun e _ W3 => e = .normal ∧ W3.heap[l]? = some (.loop (readyLoop fn tm ps assign body D .busy)) ∧ R (W3.putObj l (.loop (readyLoop fn tm ps assign body D .ready)))) a₁ W2) :
    YieldAt Fence.wide n P l args W fun e W' => e = .returned (.bool true) ∧ R W' := by
  refine ⟨fn, _, assign, body, run_yield hl hps, roundIn_of_wpIn trivial (hassign _ ⟨_, run_beginRound hl rfl, ?_⟩)⟩
  refine wpIn_mono (hbody _ rfl) ?_
  rintro e a3 W3 ⟨rfl, hl3, hR⟩
  exact ⟨_, _, run_endRound none hl3, rfl, hR⟩
/-- A range over a function that is always asked for more. -/
theorem range_stmt {n : Nat} (h1 : 1 ≤ n) {g : Operand} {ps : Array Tmp} {assign body : Code} {Q : Exit → Act → World → Prop} {a : Act} {w : World} {gf : Nat} {lb : Array Value}
    (hg : a.eval g = .func (.func gf) #[] lb) (eg : ∀ args w, (callFunc gf args).run P w = .ok (.enter gf args) w) (J : World → Prop)
    (hcall : ∀ fn W1, W1 = (w.alloc (.deferred (some []))).alloc (.loop (readyLoop fn a.tmps ps assign body w.heap.size .ready)) → CallsIn Fence.wide (n - 1) P gf (#[.func (.yield (w.heap.size + 1)) #[] #[]] ++ lb) W1 fun e W2 => (∃ v, e = .returned v) ∧ J W2 ∧ W2.heap[w.heap.size + 1]? = some (.loop (readyLoop fn a.tmps ps assign body w.heap.size .ready)) ∧ W2.heap[w.heap.size]? = some (.deferred (some [])))
    (hdone : ∀ fn W2, J W2 → W2.heap[w.heap.size + 1]? = some (.loop (readyLoop fn a.tmps ps assign body w.heap.size .ready)) → W2.heap[w.heap.size]? = some (.deferred (some [])) → Q .normal { a with defers := { target := .collected w.heap.size, args := #[] } :: a.defers } (W2.putObj (w.heap.size + 1) (.loop (readyLoop fn a.tmps ps assign body w.heap.size .exhausted)))) :
    (Code.rangeFunc g ps assign body).wpIn Fence.wide n P Q a w := by
  refine wpIn_rangeFunc ?_
  intro fn hfn
  rw [show Fence.wide.round = none from rfl]
  obtain ⟨W1, hW1⟩ : ∃ W1, (w.alloc (.deferred (some []))).alloc (.loop (readyLoop fn a.tmps ps assign body w.heap.size .ready)) = W1 := ⟨_, rfl⟩
  refine ⟨w.heap.size + 1, [{ target := .collected w.heap.size, args := #[] }], W1, { target := .fn (.func gf) lb, args := #[.func (.yield (w.heap.size + 1)) #[] #[]] }, W1, gf,
    #[.func (.yield (w.heap.size + 1)) #[] #[]] ++ lb, W1, ?_, ?_, fun _ _ => trivial, ?_, fun _ => h1, ?_⟩
  · rw [← hW1]; exact run_enterLoop_outer _ _ _ _ _
  · simp only [resolve, hg]
    simp [go_sem]
  · simp [invoke, go_sem, eg]
  · refine (hcall fn W1 hW1.symm).mono ?_
    rintro e W2 ⟨⟨v, rfl⟩, hJ, hl, hk⟩
    exact ⟨none, _, run_endLoop hl (by simp [readyLoop]), hdone fn W2 hJ hl hk⟩
end
theorem min_exists {p : Nat → Prop} : ∀ k, p k → ∃ m, p m ∧ ∀ j, p j → m ≤ j := by
  intro k
  induction k using Nat.strongRecOn with
  | ind k ih =>
    intro h
    by_cases hx : ∃ j, j < k ∧ p j
    · obtain ⟨j, hj, hp⟩ := hx
      exact ih j hj hp
    · exact ⟨k, h, fun j hp => Nat.le_of_not_lt (fun hlt => hx ⟨j, hlt, hp⟩)⟩
theorem least_exists (I : Nat → Value → World → Prop) : ∃ mu : Value → World → Nat, ∀ i wr k, I k i wr → I (mu i wr) i wr ∧ ∀ j, I j i wr → mu i wr ≤ j := by
  classical
  refine ⟨fun i wr => if h : ∃ m, I m i wr ∧ ∀ j, I j i wr → m ≤ j then h.choose else 0, fun i wr k h => ?_⟩
  have hx := min_exists (p := fun m => I m i wr) k h
  simp only [dif_pos hx]
  exact hx.choose_spec

/-- What a walk through the records of a journal finds: the records, and what is left. -/
def journal_Read.loop : Nat → Int → List Int → List (List Int) → Option (List (List Int) × List Int)
  | 0, _, _, _ => none
  | k + 1, key, j, out => (journal_record.f k j key).bind fun b => if b.2.2.2 = true then (if out.length < 5864062014805 then journal_Read.loop k b.2.1 b.2.2.1 (out ++ [b.1]) else none) else some (out, j)

/-- What holds between the rounds of a walk through the records, when at most kq rounds are to come. -/
def journal_records.Inv (Bs : Nat) (J : List (List Int) → Value → List Int → World → Prop) (out' : List (List Int)) (t' : List Int) (kq : Nat) (i : Value) (wr : World) : Prop :=
  ∃ (key : Int) (tv : Value) (t : List Int) (out : List (List Int)), i = .int .u64 key ∧ journal_Read.loop kq key t out = some (out', t') ∧ J out tv t wr ∧ Bs < wr.heap.size ∧ wr.cell? ⟨Bs, 0, none⟩ = some tv ∧ wr.frozen? ⟨Bs, 0, none⟩ = false
section
attribute [local go_sem] Oper.semAt_some
set_option maxRecDepth 100000 in
set_option maxHeartbeats 4000000 in
theorem journal_records.run (n l Bs : Nat) (hn : 3 ≤ n) (J : List (List Int) → Value → List Int → World → Prop)
    (hJb : ∀ out tv t W W', J out tv t W → Below W.heap.size W W' → J out tv t W')
    (hJs : ∀ out tv t W v, J out tv t W → J out tv t (W.setCell ⟨Bs, 0, none⟩ v))
    (hY : ∀ out tv t Wr, J out tv t Wr → ∃ P0 : Nat → Prop, Kd.V (Kd.int .u8) 5 Wr Wr.heap.size P0 tv t ∧ ∀ r t2 rv tv2 W, Below Wr.heap.size Wr W → out.length < 5864062014805 → Kd.R (Kd.int .i64) 3 W Wr.heap.size (fun k_ => Wr.heap.size ≤ k_) rv r →
      Kd.V (Kd.int .u8) 5 W Wr.heap.size (fun k_ => (P0 k_ ∨ Wr.heap.size ≤ k_) ∧ some k_ ≠ (rv : Value).ownBlock) tv2 t2 →
      YieldAt Fence.wide (n - 1) Try.prog l #[rv, tv2] W fun e W' => e = .returned (.bool true) ∧ (J (out ++ [r]) tv2 t2 W' ∧ W'.cell? ⟨Bs, 0, none⟩ = W.cell? ⟨Bs, 0, none⟩ ∧ W'.frozen? ⟨Bs, 0, none⟩ = W.frozen? ⟨Bs, 0, none⟩))
    (k0 : Nat) (jv : Value) (j0 : List Int) (out' : List (List Int)) (t' : List Int) (W : World) (h : journal_Read.loop k0 0 j0 [] = some (out', t')) (h0 : J [] jv j0 W) (hBs : Bs < W.heap.size) (hc : W.cell? ⟨Bs, 0, none⟩ = some jv) (hf : W.frozen? ⟨Bs, 0, none⟩ = false) :
    CallsIn Fence.wide n Try.prog 109 #[.func (.yield l) #[] #[], .pointer (some ⟨Bs, 0, none⟩)] W fun e W' => (∃ v, e = .returned v) ∧ ∃ tv', J out' tv' t' W' := by
  refine callsIn_of_wp Try.func109 rfl trivial ?_ rfl
  simp only [Try.ntmps109, List.size_toArray, List.length_cons, List.length_nil, Nat.reduceAdd, Nat.reduceSub, Array.replicate_succ, Array.replicate_zero, List.push_toArray, List.append_toArray, List.nil_append, List.cons_append]
  gi_wp2
  obtain ⟨mu, hmu⟩ := least_exists (journal_records.Inv Bs J out' t')
  gi_loopw [3] (fun i wr => ∃ kq, journal_records.Inv Bs J out' t' kq i wr) (fun i wr => mu i wr)
  case atStart => exact ⟨k0, 0, jv, j0, [], rfl, h, h0, hBs, hc, hf⟩
  case round =>
    obtain ⟨hmin, hleast⟩ := hmu _ _ _ hrel.choose_spec
    clear hrel
    generalize hmu2 : mu u3 wr = kq at hmin hleast ⊢
    obtain ⟨key, tv, t, out, rfl, hl, hJ, hB, hcx, hfx⟩ := hmin
    cases kq with
    | zero => exact absurd hl (by simp [journal_Read.loop])
    | succ k1 =>
      simp only [journal_Read.loop] at hl
      replace hl := Option.bind_eq_some_iff.mp hl
      obtain ⟨⟨r, mark, t2, ok⟩, hrec, hl⟩ := hl
      obtain ⟨P0, hV, hYr⟩ := hY out tv t wr hJ
      obtain ⟨A0, c0, rfl⟩ := Kd.V_slice hV
      gi_wp2
      refine ⟨trivial, by simp [Fence.wide], (callsIn_wide.2 (journal_record.calls k1 P0 A0 c0 t key r mark t2 ok wr hV hrec)).mono ?_⟩
      rintro e w1 ⟨rv, tv2, rfl, hR, hV2, hb⟩
      have hB1 : Bs < w1.heap.size := Nat.lt_of_lt_of_le hB hb.size
      have hc1 : w1.cell? ⟨Bs, 0, none⟩ = some (.slice A0 t.length c0) := (hb.cell (p := ⟨Bs, 0, none⟩) hB).trans hcx
      have hf1 : w1.frozen? ⟨Bs, 0, none⟩ = false := (hb.frozen (p := ⟨Bs, 0, none⟩) hB).trans hfx
      cases ok with
      | false =>
        replace hl : some (out, t) = some (out', t') := hl
        obtain ⟨rfl, rfl⟩ := Prod.mk.inj (Option.some.inj hl)
        gi_wp2
        refine ⟨fun f h => by simp at h, ?_⟩
        gi_wp2
        refine bodyPost_ret (results_none rfl _ _ _) rfl ?_
        exact ⟨⟨_, rfl⟩, _, hJb _ _ _ _ _ hJ hb⟩
      | true =>
        replace hl : (if out.length < 5864062014805 then journal_Read.loop k1 mark t2 (out ++ [r]) else none) = some (out', t') := hl
        by_cases ho : out.length < 5864062014805
        · rw [if_pos ho] at hl
          obtain ⟨A2, c2, rfl⟩ := Kd.V_slice hV2
          obtain ⟨fn, tmps, assign, body, hy, hRd⟩ := hYr r t2 rv _ w1 hb ho hR hV2
          gi_wp2
          refine ⟨by simp [Fence.wide], hRd.mono ?_⟩
          rintro e W3 ⟨rfl, hJ3, hc3, hf3⟩
          have hc4 : W3.cell? ⟨Bs, 0, none⟩ = some (.slice A0 t.length c0) := hc3.trans hc1
          have hf4 : W3.frozen? ⟨Bs, 0, none⟩ = false := hf3.trans hf1
          have hB3 : Bs < W3.heap.size := World.block_lt_of_cell? _ _ hc4
          gi_wp2
          go_roundw
          case rel => exact ⟨k1, mark, .slice A2 t2.length c2, t2, out ++ [r], rfl, hl, hJs _ _ _ _ _ hJ3, by simpa using hB3, World.cell?_setCell_same' _ _ _ (by rw [hc4]; rfl), by rw [World.frozen?_setCell]; exact hf4⟩
          case measure =>
            have := (hmu (Value.int .u64 mark) (W3.setCell ⟨Bs, 0, none⟩ (.slice A2 t2.length c2)) k1 ⟨mark, .slice A2 t2.length c2, t2, out ++ [r], rfl, hl, hJs _ _ _ _ _ hJ3, by simpa using hB3, World.cell?_setCell_same' _ _ _ (by rw [hc4]; rfl), by rw [World.frozen?_setCell]; exact hf4⟩).2 k1 ⟨mark, .slice A2 t2.length c2, t2, out ++ [r], rfl, hl, hJs _ _ _ _ _ hJ3, by simpa using hB3, World.cell?_setCell_same' _ _ _ (by rw [hc4]; rfl), by rw [World.frozen?_setCell]; exact hf4⟩
            omega
        · rw [if_neg ho] at hl
          exact absurd hl (by simp)
end
set_option maxRecDepth 100000 in
set_option maxHeartbeats 4000000 in
theorem journal_records.calls (A0 : Option Addr) (n0 c0 : Nat) (w : World) :
    Calls Try.prog 85 #[.slice A0 n0 c0] w fun e w' => e = .returned (.func (.func 109) #[] #[.pointer (some ⟨w.heap.size, 0, none⟩)]) ∧ w' = w.alloc (.cells #[.slice A0 n0 c0] 22) := by
  go_enter Try.func85, Try.ntmps85
  go_wp2
  go_ret
  exact ⟨rfl, rfl⟩
theorem blk_cell_ {W W4 : World} {g : Nat} {v : Value} {t : TypeId} (hb : Below W.heap.size W W4) (h : W.heap[g]? = some (.cells #[v] t (0, 0))) : W4.cell? ⟨g, 0, none⟩ = some v := (blk_cell (blk_below h hb) 0).trans rfl
theorem wp_norm {P : Program} {c : Code} {K : Act → World → Prop} {Q : Exit → Act → World → Prop} {a : Act} {w : World} (h : c.wp P (Exit.then K (fun _ _ _ => False)) a w) : c.wp P (Exit.then K Q) a w :=
  Code.wp_mono (fun e a w h => by cases e <;> first | exact h | exact h.elim) h
theorem put_at {W W2 : World} {l : Nat} {o : Obj} (h : W2 = W.putObj l o) (hl : l < W.heap.size) : W2.heap[l]? = some o := by
  subst h
  exact World.putObj_heap_same hl
def journal_Read.f (k : Nat) (l0 : List Int) : Option (List (List Int) × List Int × Int) := (journal_Read.loop k 0 l0 []).bind fun b => if (b.2.length : Int) > 0 then (slices_Clone_byte_byte.f b.2).bind fun c => some (b.1, c, 460) else some (b.1, [], 0)
/-- What holds between the rounds of Read: the two variables, the records so far, what is left. -/
def journal_Read.J (w0 : World) (b5 b6 D L N0 : Nat) (lp : Loop) (out : List (List Int)) (tv : Value) (t : List Int) (W : World) : Prop :=
  ∃ ov, W.heap[b5]? = some (.cells #[ov] 23 (0, 0)) ∧ W.heap[b6]? = some (.cells #[tv] 22 (0, 0)) ∧ Kd.S (Kd.slice 3 (Kd.int .i64)) 29 W N0 (fun k_ => N0 ≤ k_) ov out ∧ Kd.V (Kd.int .u8) 5 W N0 (fun k_ => (k_ < w0.heap.size ∨ N0 ≤ k_) ∧ some k_ ≠ (ov : Value).ownBlock) tv t ∧
    Below w0.heap.size w0 W ∧ N0 ≤ W.heap.size ∧ W.heap[L]? = some (.loop lp) ∧ W.heap[D]? = some (.deferred (some []))
theorem journal_Read.J_below {w0 : World} {b5 b6 D L N0 : Nat} {lp : Loop} {out : List (List Int)} {tv : Value} {t : List Int} {W W' : World} (h : journal_Read.J w0 b5 b6 D L N0 lp out tv t W) (hb : Below W.heap.size W W') : journal_Read.J w0 b5 b6 D L N0 lp out tv t W' := by
  obtain ⟨ov, h1, h2, h3, h4, h5, h6, h7, h8⟩ := h
  exact ⟨ov, blk_below h1 hb, blk_below h2 hb, Kd.S_below h3 hb, Kd.V_below h4 hb, below_step h5 hb, Nat.le_trans h6 hb.size, blk_below h7 hb, blk_below h8 hb⟩
theorem journal_Read.J_set {w0 : World} {b5 b6 D L N0 Bs : Nat} {lp : Loop} {out : List (List Int)} {tv : Value} {t : List Int} {W : World} (v : Value) (hn : w0.heap.size ≤ b5 ∧ b5 < b6 ∧ b6 < Bs ∧ Bs < D ∧ D < L ∧ L < N0) (h : journal_Read.J w0 b5 b6 D L N0 lp out tv t W) : journal_Read.J w0 b5 b6 D L N0 lp out tv t (W.setCell ⟨Bs, 0, none⟩ v) := by
  obtain ⟨ov, h1, h2, h3, h4, h5, h6, h7, h8⟩ := h
  have hh := fun k (hk : k ≠ Bs) => Below.heap_setCell W ⟨Bs, 0, none⟩ v k hk
  refine ⟨ov, (hh _ (by omega)).trans h1, (hh _ (by omega)).trans h2, Kd.S_far (p := ⟨Bs, 0, none⟩) h3 (fun k hk => by show k ≠ Bs; omega) v, Kd.V_far (p := ⟨Bs, 0, none⟩) h4 (fun k hk => by show k ≠ Bs; have := hk.1; omega) v, below_set h5 (by omega), by simpa using h6, (hh _ (by omega)).trans h7, (hh _ (by omega)).trans h8⟩
/-- A block that is no row of cells is turned: what holds of the rest holds. -/
theorem journal_Read.J_put {w0 : World} {b5 b6 D L N0 Bs : Nat} {lp lp' : Loop} {out : List (List Int)} {tv : Value} {t : List Int} {W : World} (hn : w0.heap.size ≤ b5 ∧ b5 < b6 ∧ b6 < Bs ∧ Bs < D ∧ D < L ∧ L < N0) (h : journal_Read.J w0 b5 b6 D L N0 lp out tv t W) : journal_Read.J w0 b5 b6 D L N0 lp' out tv t (W.putObj L (.loop lp')) := by
  obtain ⟨ov, h1, h2, h3, h4, h5, h6, h7, h8⟩ := h
  have hh := fun k (hk : k ≠ L) => World.putObj_heap_other (w := W) (o := .loop lp') hk
  have hl := blk_lt h7
  refine ⟨ov, (hh _ (by omega)).trans h1, (hh _ (by omega)).trans h2, Kd.S_step h3 (fun k hk _ => hh k (by omega)), Kd.V_step h4 (fun k hk _ => hh k (by have := hk.1; omega)), ?_, by simpa [World.putObj] using h6, World.putObj_heap_same hl, (hh _ (by omega)).trans h8⟩
  exact h5.grown (grownBy_putObj' W L _) h5.size (fun k e => by cases e; omega)
theorem journal_Read.J_put' {w0 : World} {b5 b6 D L N0 Bs : Nat} {lp lp' : Loop} {out : List (List Int)} {tv : Value} {t : List Int} {W W3 : World} (hn : w0.heap.size ≤ b5 ∧ b5 < b6 ∧ b6 < Bs ∧ Bs < D ∧ D < L ∧ L < N0) (h : journal_Read.J w0 b5 b6 D L N0 lp out tv t W) (hW : W.putObj L (.loop lp') = W3) : journal_Read.J w0 b5 b6 D L N0 lp' out tv t W3 := hW ▸ journal_Read.J_put hn h
theorem journal_Read.mono_l : ∀ k, (∀ y0 y1 y2, LeO (journal_Read.loop k y0 y1 y2) (journal_Read.loop (k + 1) y0 y1 y2))
  | 0 => fun _ _ _ r h => by simp [journal_Read.loop] at h
  | k + 1 => by
    have ih0 := journal_Read.mono_l k
    intro y0 y1 y2
    unfold journal_Read.loop
    repeat' first
      | (with_reducible exact ih0 _ _ _)
      | (with_reducible exact journal_record.mono _ _ _)
      | (with_reducible exact LeO.refl _)
      | (with_reducible exact LeO.none _)
      | (with_reducible refine LeO.ite ?_ ?_)
      | (with_reducible refine LeO.bind ?_ (fun _ => ?_))
theorem journal_Read.mono : ∀ a0 k, LeO (journal_Read.f k a0) (journal_Read.f (k + 1) a0) := by
  intro a0 k
  unfold journal_Read.f
  refine LeO.bind (journal_Read.mono_l _ _ _ _) (fun _ => LeO.refl _)
section
attribute [local go_sem] Oper.semAt_some
set_option maxRecDepth 100000 in
set_option maxHeartbeats 4000000 in
theorem journal_Read.calls (k : Nat) (A0 : Option Addr) (c0 : Nat) (l0 : List Int) (r1 : List (List Int)) (r2 : List Int) (r3 : Int) (w : World) (hr0 : Kd.C (Kd.int .u8) w A0 l0.length l0) (hc0 : l0.length ≤ c0) (h : journal_Read.f k l0 = some (r1, r2, r3)) :
    Calls Try.prog 80 #[.slice A0 l0.length c0] w fun e w' => ∃ v0_ v1_ : Value, e = .returned (.tuple #[v0_, v1_, .int .i64 r3]) ∧ Kd.S (Kd.slice 3 (Kd.int .i64)) 29 w' w.heap.size (fun _ => True) v0_ r1 ∧ Kd.R (Kd.int .u8) 5 w' w.heap.size (fun _ => True) v1_ r2 ∧ Below w.heap.size w w' := by
  refine (callsIn_wide (n := 6)).1 ?_
  refine callsIn_of_wp_marks Try.func80 rfl trivial ?_ rfl
  simp only [Try.ntmps80, List.size_toArray, List.length_cons, List.length_nil, Nat.reduceAdd, Nat.reduceSub, Array.replicate_succ, Array.replicate_zero, List.push_toArray, List.append_toArray, List.nil_append, List.cons_append]
  gi_wp2
  refine ⟨trivial, (callsIn_wide.2 (journal_records.calls A0 l0.length c0 _)).mono ?_⟩
  rintro e W ⟨rfl, hW⟩
  gi_wp2
  unfold journal_Read.f at h
  replace h := Option.bind_eq_some_iff.mp h
  obtain ⟨⟨out', t'⟩, hloop, h⟩ := h
  obtain ⟨Ws, hWs⟩ : ∃ Ws, (((w.alloc (.cells #[.slice none 0 0] 23)).alloc (.cells #[.slice A0 l0.length c0] 22)).alloc (.cells #[.slice A0 l0.length c0] 22)) = Ws := ⟨_, rfl⟩
  have hsz : Ws.heap.size = w.heap.size + 3 := by rw [← hWs]; simp
  have hbw : Below w.heap.size w Ws := by rw [← hWs]; exact below_alloc (below_alloc (below_alloc (Below.refl _ _) _) _) _
  have hx5 : Ws.heap[w.heap.size]? = some (.cells #[.slice none 0 0] 23) := by rw [← hWs]; exact blk_alloc (blk_alloc (blk_new _ _) _) _
  have hx6 : Ws.heap[w.heap.size + 1]? = some (.cells #[.slice A0 l0.length c0] 22) := by rw [← hWs]; refine blk_alloc ?_ _; have := blk_new (w.alloc (.cells #[.slice none 0 0] 23)) (.cells #[.slice A0 l0.length c0] 22); simpa using this
  have hx7 : Ws.heap[w.heap.size + 2]? = some (.cells #[.slice A0 l0.length c0] 22) := by rw [← hWs]; have := blk_new ((w.alloc (.cells #[.slice none 0 0] 23)).alloc (.cells #[.slice A0 l0.length c0] 22)) (.cells #[.slice A0 l0.length c0] 22); simpa using this
  rw [hWs]
  clear hWs
  have hn : w.heap.size ≤ w.heap.size ∧ w.heap.size < w.heap.size + 1 ∧ w.heap.size + 1 < w.heap.size + 2 ∧ w.heap.size + 2 < w.heap.size + 3 ∧ w.heap.size + 3 < w.heap.size + 4 ∧ w.heap.size + 4 < w.heap.size + 5 := by omega
  refine range_stmt (by omega) (gf := 109) (lb := #[.pointer (some ⟨w.heap.size + 1 + 1, 0, none⟩)]) rfl (enters_of Try.func109 (by kernel_rfl) rfl) (fun W2 => ∃ lp tv', journal_Read.J w w.heap.size (w.heap.size + 1) (w.heap.size + 3) (w.heap.size + 4) (w.heap.size + 5) lp out' tv' t' W2) ?_ ?_
  · intro fn W1 hW1
    rw [hsz] at hW1 ⊢
    generalize hlp : readyLoop fn _ _ _ _ _ _ = lp at hW1 ⊢
    have hw1 : Below Ws.heap.size Ws W1 := by rw [hW1]; exact below_alloc (below_alloc (Below.refl _ _) _) _
    have hs1 : W1.heap.size = w.heap.size + 5 := by rw [hW1]; simp; omega
    refine (journal_records.run 5 (w.heap.size + 4) (w.heap.size + 2) (by omega) (journal_Read.J w w.heap.size (w.heap.size + 1) (w.heap.size + 3) (w.heap.size + 4) (w.heap.size + 5) lp) (fun _ _ _ _ _ hJ hb => journal_Read.J_below hJ hb) (fun _ _ _ _ v hJ => journal_Read.J_set v hn hJ) ?_ k (.slice A0 l0.length c0) l0 out' t' W1 hloop ?_ (by omega) ?_ ?_).mono ?_
    · subst hlp
      rintro out tv t Wr ⟨ov, h1, h2, h3, h4, h5, h6, h7, h8⟩
      refine ⟨_, h4, fun r t2 rv tv2 W hb ho hR hV => ?_⟩
      have h7W := blk_below h7 hb
      have h8W := blk_below h8 hb
      have h1W := blk_below h1 hb
      have h2W := blk_below h2 hb
      have h3W := Kd.S_elder' h3 (Kd.R_base hR) hb
      have h5W := below_step h5 hb
      have h6W : w.heap.size + 5 ≤ W.heap.size := Nat.le_trans h6 hb.size
      have hVW : Kd.V (Kd.int .u8) 5 W (w.heap.size + 5) (fun k_ => ((k_ < w.heap.size ∨ w.heap.size + 5 ≤ k_) ∧ some k_ ≠ (rv : Value).ownBlock) ∧ some k_ ≠ (ov : Value).ownBlock) tv2 t2 := Kd.V_mono hV (fun k hk => by
        rcases hk.1 with h | h
        · exact ⟨⟨h.1, hk.2⟩, h.2⟩
        · exact ⟨⟨Or.inr (Nat.le_trans h6 h), hk.2⟩, fun e => by have := Kd.S_lt h3 k e.symm; omega⟩)
      have hRW : Kd.R (Kd.int .i64) 3 W (w.heap.size + 5) (fun k_ => w.heap.size + 5 ≤ k_) rv r := Kd.R_lower (Kd.R_mono hR (fun k hk => Nat.le_trans h6 hk)) h6
      obtain ⟨A1, c1, hrv⟩ := Kd.R_slice hR
      obtain ⟨A2, c2, htv⟩ := Kd.V_slice hV
      obtain ⟨A3, c3, hov⟩ := Kd.S_slice h3
      subst hrv htv hov
      refine round_yield { tmps := #[.slice A0 l0.length c0, undef, .slice none 0 0, .slice none 0 0, .int .i64 0, .pointer (some ⟨w.heap.size, 0, none⟩), .pointer (some ⟨w.heap.size + 1, 0, none⟩), .slice A1 r.length c1, .slice A2 t2.length c2, .slice A0 l0.length c0, .slice A0 l0.length c0, .func (.func 109) #[] #[.pointer (some ⟨w.heap.size + 1 + 1, 0, none⟩)], .slice A1 r.length c1, .slice A2 t2.length c2, undef, undef, undef, undef, undef, undef, undef, undef, undef, undef, undef, undef], defers := [] } h7W rfl (fun K hK => ?_) (fun W2 hW2 => ?_)
      · gi_wp2
        exact hK
      · have hh : ∀ k, k ≠ w.heap.size + 4 → W2.heap[k]? = W.heap[k]? := fun k hk => by rw [hW2]; exact World.putObj_heap_other hk
        have hL2 := put_at hW2 (blk_lt h7W)
        have hz2 : W2.heap.size = W.heap.size := by rw [hW2]; simp [World.putObj]
        have h5V : Below w.heap.size w W2 := by rw [hW2]; exact h5W.grown (grownBy_putObj' W _ _) h5W.size (fun k e => by cases e; omega)
        have h8V := (hh _ (by omega)).trans h8W
        have h1V := (hh _ (by omega)).trans h1W
        have h2V := (hh _ (by omega)).trans h2W
        have h3V := Kd.S_step h3W (fun k hk _ => hh k (by have := hk.1; omega))
        have hVV := Kd.V_step hVW (fun k hk _ => hh k (by have := hk.1.1; omega))
        have hRV := Kd.R_step hRW (fun k hk _ => hh k (by omega))
        have hBc : ∀ W' : World, W'.heap[w.heap.size + 2]? = W2.heap[w.heap.size + 2]? → W'.cell? ⟨w.heap.size + 2, 0, none⟩ = W.cell? ⟨w.heap.size + 2, 0, none⟩ ∧ W'.frozen? ⟨w.heap.size + 2, 0, none⟩ = W.frozen? ⟨w.heap.size + 2, 0, none⟩ := fun W' e => by
          have e2 := e.trans (hh _ (by omega))
          exact ⟨World.cell?_of_block (w := W) e2, World.frozen?_of_block (w := W) e2⟩
        clear hW2 hh
        refine wpIn_block ?_
        refine wpIn_region_lit ?_
        refine inround_list ?_ _ _ _ ?_ ?_
        · rintro ⟨a_, w_, hx⟩
          exact absurd hx.1 (by simp)
        · intro o ho_ c
          simp only [List.mem_cons, List.not_mem_nil, or_false] at ho_
          rcases ho_ with rfl | rfl | rfl | rfl | rfl | rfl | rfl <;> simp
        · have h6V : w.heap.size + 5 ≤ W2.heap.size := by omega
          clear hz2
          have hz5 : W2.cell? ⟨w.heap.size, 0, none⟩ = some (.slice A3 out.length c3) := (blk_cell h1V 0).trans rfl
          have hz6 : W2.cell? ⟨w.heap.size + 1, 0, none⟩ = some tv := (blk_cell h2V 0).trans rfl
          go_wp2_with (first | ((with_reducible refine gate_builtin (b := .append) (xs := #[.tmp 14, .tmp 16]) rfl ?_); at_builtin; refine Kd.S_append (Kd.slice 3 (Kd.int .i64)) (w0 := W2) (w.heap.size + 5) rfl (.tmp 14) (.tmp 16) 23 29 (.slice none 0 0) 24 rfl Try.underlying23 info29 rfl (by decide) (by omega) (.slice A3 out.length c3) out r [.slice A1 r.length c1] (fun k_ => w.heap.size + 5 ≤ k_) (fun k_ => some k_ = (.slice A1 r.length c1 : Value).ownBlock) rfl rfl ?aP (fun k_ hk_ => (Kd.R_apart' hRV (Kd.S_typed h3V) (by decide)).1 k_ hk_.symm) ?aF ?aO ?aB ?aS ?aL ?_; (case aP => exact Kd.M_row (Kd.R_tight rfl hRV)); (case aF => exact fun k hk => Nat.le_trans h6V hk); (case aO => exact Kd.S_mono h3V (fun k hk => ⟨hk.1, fun e => hk.2 e⟩)); (case aB => exact Below.refl _ _); (case aS => exact h6V); (case aL => omega); intro v1 w1 hS1 hB1 hg1 hat1; have e5 := (hB1.block w.heap.size (by omega)).trans h1V; have e6 := (hB1.block (w.heap.size + 1) (by omega)).trans h2V; have hy5 : w1.cell? ⟨w.heap.size, 0, none⟩ = some (.slice A3 out.length c3) := (blk_cell e5 0).trans rfl; have hy6 : w1.cell? ⟨w.heap.size + 1, 0, none⟩ = some tv := (blk_cell e6 0).trans rfl; have hf5 := blk_frozen e5 0; have hf6 := blk_frozen e6 0; obtain ⟨A4, c4, hv1⟩ := Kd.S_slice hS1; subst hv1))
          have hln : (out ++ [r]).length = out.length + 1 := by simp
          rw [hln] at hS1 hat1
          have hs3 : ∀ j, j ≠ w.heap.size → j ≠ w.heap.size + 1 → ((w1.setCell ⟨w.heap.size, 0, none⟩ (.slice A4 (out.length + 1) c4)).setCell ⟨w.heap.size + 1, 0, none⟩ (.slice A2 t2.length c2)).heap[j]? = w1.heap[j]? := fun j h5_ h6_ => (Below.heap_setCell _ ⟨w.heap.size + 1, 0, none⟩ _ j h6_).trans (Below.heap_setCell _ ⟨w.heap.size, 0, none⟩ _ j h5_)
          have hL3 := (hs3 (w.heap.size + 4) (by omega) (by omega)).trans ((hB1.block (w.heap.size + 4) (by omega)).trans hL2)
          have hD3 := (hs3 (w.heap.size + 3) (by omega) (by omega)).trans ((hB1.block (w.heap.size + 3) (by omega)).trans h8V)
          have hb3 := (hs3 (w.heap.size + 2) (by omega) (by omega)).trans (hB1.block (w.heap.size + 2) (by omega))
          have hz1 := hB1.size
          refine ⟨hL3, journal_Read.J_put hn ⟨.slice A4 (out.length + 1) c4, blk_far (blk_put e5 0 _ rfl) (by show w.heap.size ≠ w.heap.size + 1; omega) _, blk_put (blk_far e6 (by show w.heap.size + 1 ≠ w.heap.size; omega) _) 0 _ rfl, ?_, ?_, ?_, ?_, hL3, hD3⟩, hBc _ ((World.putObj_heap_other (by omega)).trans hb3)⟩
          · exact Kd.S_far (p := ⟨w.heap.size + 1, 0, none⟩) (Kd.S_far (p := ⟨w.heap.size, 0, none⟩) hS1 (fun k hk => by show k ≠ w.heap.size; omega) _) (fun k hk => by show k ≠ w.heap.size + 1; omega) _
          · have hv3 := Kd.V_afterv (ok := fun k_ => (k_ < w.heap.size ∨ w.heap.size + 5 ≤ k_) ∧ some k_ ≠ (Value.slice A1 r.length c1).ownBlock) hVV hg1 hat1
            exact Kd.V_mono (Kd.V_far (p := ⟨w.heap.size + 1, 0, none⟩) (Kd.V_far (p := ⟨w.heap.size, 0, none⟩) hv3 (fun k hk => by show k ≠ w.heap.size; have := hk.1.1; omega) _) (fun k hk => by show k ≠ w.heap.size + 1; have := hk.1.1; omega) _) (fun k hk => ⟨hk.1.1, hk.2⟩)
          · exact below_set (below_set (h5V.trans (hB1.mono (by omega))) (by omega)) (by omega)
          · simp only [World.size_setCell]; omega
    · refine ⟨.slice none 0 0, blk_below hx5 hw1, blk_below hx6 hw1, Kd.S_nil _ _ _ _ _, ?_, below_step hbw hw1, by omega, ?_, ?_⟩
      · exact Kd.V_mono (Kd.V_below (Kd.V_mk (base := w.heap.size + 5) hc0 (Kd.F_below (Kd.C_F (Kd.heap_int .u8) hr0) hbw)) hw1) (fun k_ hk => ⟨Or.inl hk, by simp [Value.ownBlock]⟩)
      · rw [hW1]; have := blk_new (Ws.alloc (.deferred (some []))) (.loop lp); simpa [hsz] using this
      · rw [hW1]; refine blk_alloc ?_ _; have := blk_new Ws (.deferred (some [])); simpa [hsz] using this
    · exact (blk_cell (blk_below hx7 hw1) 0).trans rfl
    · exact blk_frozen (blk_below hx7 hw1) 0
    · rintro e W2 ⟨hv, tv', hJ⟩
      refine ⟨hv, ⟨_, tv', hJ⟩, ?_, ?_⟩
      · obtain ⟨ov, h1, h2, h3, h4, h5, h6, h7, h8⟩ := hJ
        exact h7
      · obtain ⟨ov, h1, h2, h3, h4, h5, h6, h7, h8⟩ := hJ
        exact h8
  · rintro fn W2 ⟨lp, tv', hJ⟩ hL hD
    rw [hsz] at hL hD ⊢
    clear hL hD
    generalize hW3 : W2.putObj (w.heap.size + 3 + 1) _ = W3
    obtain ⟨ov, h1, h2, h3, h4, h5, h6, h7, h8⟩ := journal_Read.J_put' hn hJ hW3
    clear hW3 hJ hx5 hx6 hx7 hbw hsz hn h7
    obtain ⟨A3, c3, rfl⟩ := Kd.S_slice h3
    obtain ⟨A2, c2, rfl⟩ := Kd.V_slice h4
    have hz5 : W3.cell? ⟨w.heap.size, 0, none⟩ = some (.slice A3 out'.length c3) := (blk_cell h1 0).trans rfl
    have hz6 : W3.cell? ⟨w.heap.size + 1, 0, none⟩ = some (.slice A2 t'.length c2) := (blk_cell h2 0).trans rfl
    have hL4 := Kd.V_reads' h4
    replace h : (if (t'.length : Int) > 0 then (slices_Clone_byte_byte.f t').bind fun c => some (out', c, 460) else some (out', [], 0)) = some (r1, r2, r3) := h
    have hfin : ∀ (W4 : World) (v0 : Value) (x : List Int), Below W3.heap.size W3 W4 → Kd.R (Kd.int .u8) 5 W4 W3.heap.size (fun _ => True) v0 x → W4.heap[w.heap.size + 3]? = some (.deferred (some [])) ∧
        Kd.S (Kd.slice 3 (Kd.int .i64)) 29 (W4.putObj (w.heap.size + 3) (.deferred none)) w.heap.size (fun _ => True) (.slice A3 out'.length c3) out' ∧ Kd.R (Kd.int .u8) 5 (W4.putObj (w.heap.size + 3) (.deferred none)) w.heap.size (fun _ => True) v0 x ∧ Below w.heap.size w (W4.putObj (w.heap.size + 3) (.deferred none)) := fun W4 v0 x hb4 hR0 => by
      have hD4 := blk_below h8 hb4
      have hh : ∀ k, k ≠ w.heap.size + 3 → (W4.putObj (w.heap.size + 3) (.deferred none)).heap[k]? = W4.heap[k]? := fun k hk => World.putObj_heap_other hk
      have hb5 := below_step h5 hb4
      refine ⟨hD4, ?_, ?_, hb5.grown (grownBy_putObj' W4 _ _) hb5.size (fun k e => by cases e; omega)⟩
      · exact Kd.S_mono (Kd.S_lower (Kd.S_step (Kd.S_below h3 hb4) (fun k hk _ => hh k (by omega))) (by omega)) (fun _ _ => trivial)
      · exact Kd.R_mono (Kd.R_lower (Kd.R_step (Kd.R_bound hR0) (fun k hk _ => hh k (by have := hk.2.1; omega))) (by omega)) (fun _ _ => trivial)
    by_cases ht : (t'.length : Int) > 0
    · rw [if_pos ht] at h
      replace h := Option.bind_eq_some_iff.mp h
      obtain ⟨c, hcl, h⟩ := h
      simp only [Option.some.injEq, Prod.mk.injEq] at h
      obtain ⟨rfl, rfl, rfl⟩ := h
      have d1 : decide (0 < (t'.length : Int)) = true := decide_eq_true ht
      have d2 : decide (0 < t'.length) = true := decide_eq_true (by omega)
      gi_wp2
      refine wpIn_wide.2 (wp_norm ?_)
      refine start_ (n := 6) (S := fun w' => w'.cell? ⟨w.heap.size, 0, none⟩ = some (.slice A3 out'.length c3) ∧ w'.cell? ⟨w.heap.size + 1, 0, none⟩ = some (.slice A2 t'.length c2)) (ds := []) #[false, false, false, false, false, false] (by kernel_rfl) rfl rfl ⟨hz5, hz6⟩ (fun hHeld => ?_)
      refine take_ (i := 0) (N := some 22) (v := ?_) (a' := ?_) #[true, false, false, false, false, false] rfl rfl (by kernel_rfl) (fun _ _ _ h => h) (Or.inl ⟨by rfl, ?_⟩) hHeld ?_ ?_
      rotate_left
      · intro w' s0
        obtain ⟨s1, s2⟩ := s0
        go_simp
        with_reducible rfl
      rotate_left
      · simp only [Act.put, List.setIfInBounds_toArray, List.set_cons_zero, List.set_cons_succ, i64_w, i32_w]
        rfl
      refine take_ (i := 1) (N := some 23) (v := ?_) (a' := ?_) #[true, true, false, false, false, false] rfl rfl (by kernel_rfl) (fun _ _ _ h => h) (Or.inl ⟨by rfl, ?_⟩) hHeld ?_ ?_
      rotate_left
      · intro w' s0
        obtain ⟨s1, s2⟩ := s0
        go_simp
        with_reducible rfl
      rotate_left
      · simp only [Act.put, List.setIfInBounds_toArray, List.set_cons_zero, List.set_cons_succ, i64_w, i32_w]
        rfl
      refine one_ (i := 2) (N := some 24) #[true, true, true, false, false, false] rfl rfl (by kernel_rfl) (by decide) (fun K hK => ?_)
      refine goes_ Try.func83 (by kernel_rfl) rfl #[.slice A2 t'.length c2] (by rfl) rfl rfl (by (try simp only [List.map_toArray, List.map_cons, List.map_nil]); first | done | rfl) ?_
      refine (slices_Clone_byte_byte.calls A2 c2 t' c W3.drew (Kd.C_drew hL4.2.2) hL4.2.1 hcl).mono ?_
      rintro e W4 ⟨v0, rfl, hR0, hb4_⟩
      have hb4 : Below W3.heap.size W3 W4 := (below_drew1 (Below.refl _ W3)).trans hb4_
      refine ⟨_, rfl, ?_⟩
      refine hK.out _ _ ⟨blk_cell_ hb4 h1, blk_cell_ hb4 h2⟩ (fun hHeld => ?_)
      clear hK K
      refine norm_ (a' := ?_) ?_ ?_
      rotate_left
      · show Act.put _ (some 24) _ = _
        simp only [Act.put, List.setIfInBounds_toArray, List.set_cons_zero, List.set_cons_succ, i64_w, i32_w]
        rfl
      refine pure_ (i := 3) (N := some 2) (v := ?_) (a' := ?_) #[true, true, true, true, false, false] rfl rfl (by kernel_rfl) (fun _ _ _ h => h) (Or.inl ⟨by rfl, ?_⟩) ?_ ?_
      rotate_left
      · intro w'
        go_simp
        with_reducible rfl
      rotate_left
      · simp only [Act.put, List.setIfInBounds_toArray, List.set_cons_zero, List.set_cons_succ, i64_w, i32_w]
        rfl
      refine pure_ (i := 4) (N := some 3) (v := ?_) (a' := ?_) #[true, true, true, true, true, false] rfl rfl (by kernel_rfl) (fun _ _ _ h => h) (Or.inl ⟨by rfl, ?_⟩) ?_ ?_
      rotate_left
      · intro w'
        go_simp
        with_reducible rfl
      rotate_left
      · simp only [Act.put, List.setIfInBounds_toArray, List.set_cons_zero, List.set_cons_succ, i64_w, i32_w]
        rfl
      refine pure_ (i := 5) (N := some 4) (v := ?_) (a' := ?_) #[true, true, true, true, true, true] rfl rfl (by kernel_rfl) (fun _ _ _ h => h) (Or.inl ⟨by rfl, ?_⟩) ?_ ?_
      rotate_left
      · intro w'
        go_simp
        with_reducible rfl
      rotate_left
      · simp only [Act.put, List.setIfInBounds_toArray, List.set_cons_zero, List.set_cons_succ, i64_w, i32_w]
        rfl
      refine done_ (by kernel_rfl) ?_
      obtain ⟨hD4, hS5, hR5, hb5⟩ := hfin W4 v0 c hb4 hR0
      gi_wp2
      refine ⟨by simp, .inl ⟨_, _, rfl, run_takeDeferred hD4, ?_⟩⟩
      exact ⟨_, results_tmp3 rfl _ _ _, _, _, rfl, hS5, hR5, hb5⟩
    · rw [if_neg ht] at h
      simp only [Option.some.injEq, Prod.mk.injEq] at h
      obtain ⟨rfl, rfl, rfl⟩ := h
      have d1 : decide (0 < (t'.length : Int)) = false := decide_eq_false ht
      have d2 : decide (0 < t'.length) = false := decide_eq_false (by omega)
      gi_wp2
      obtain ⟨hD4, hS5, hR5, hb5⟩ := hfin W3 (.slice none 0 0) [] (Below.refl _ _) (Kd.R_nil _ _ _ _ _)
      refine ⟨by simp, .inl ⟨_, _, rfl, run_takeDeferred hD4, ?_⟩⟩
      exact ⟨_, results_tmp3 rfl _ _ _, _, _, rfl, hS5, hR5, hb5⟩
end

/-! ### plexuslaw46_read: function 26 -/
def plexuslaw46_read.f (k : Nat) (l0 : List Int) : Option ((List (List Int)) × List Int × Int) := (journal_Read.f k l0).bind fun bt155 => (some (bt155.1, bt155.2.1, bt155.2.2))
theorem plexuslaw46_read.mono : ∀ a0 k, LeO (plexuslaw46_read.f k a0) (plexuslaw46_read.f (k + 1) a0) := by
  intro a0 k
  unfold plexuslaw46_read.f
  repeat' first
      | (with_reducible exact journal_Read.mono _ _)
      | (with_reducible exact LeO.refl _)
      | (with_reducible exact LeO.none _)
      | (with_reducible refine LeO.ite ?_ ?_)
      | (with_reducible refine LeO.bind ?_ (fun _ => ?_))
      | exact journal_Read.mono _ _
      | exact LeO.none _
      | refine LeO.ite ?_ ?_
      | refine LeO.bind ?_ (fun _ => ?_)
set_option maxHeartbeats 8000000 in
set_option maxRecDepth 100000 in
theorem plexuslaw46_read.calls (k : Nat) (A0 : Option Addr) (c0 : Nat) (l0 : List Int) (r1 : List (List Int)) (r2 : List Int) (r3 : Int) (w : World) (hr0 : Kd.C (Kd.int .u8) w A0 l0.length l0) (hc0 : l0.length ≤ c0) (h : plexuslaw46_read.f k l0 = some (r1, r2, r3)) :
    Calls Try.prog 26 #[.slice A0 l0.length c0] w fun e w' => ∃ v0_ v1_ : Value, e = .returned (.agg #[v0_, v1_, .int .i64 r3]) ∧ Kd.S (Kd.slice 3 (Kd.int .i64)) 29 w' w.heap.size (fun _ => True) v0_ r1 ∧ Kd.R (Kd.int .u8) 5 w' w.heap.size (fun _ => True) v1_ r2 ∧ Below w.heap.size w w' := by
  have hu35 := Try.underlying35
  have HR0 := Aside0.mk hr0
  have HC0 := Aside0.mk hc0
  clear hr0 hc0
  have HB := Aside0.mk (Below.refl w.heap.size w)
  have H : ((journal_Read.f k l0).bind fun bt155 => (some (bt155.1, bt155.2.1, bt155.2.2))) = some (r1, r2, r3) := h
  clear h
  replace H := Option.bind_eq_some_iff.mp H
  obtain ⟨⟨t155, t156, t157⟩, A20, H⟩ := H
  replace H : (some (t155, t156, t157)) = some (r1, r2, r3) := H
  have A2 := Aside0.mk A20
  clear A20
  simp only [Option.some.injEq, Prod.mk.injEq] at H
  obtain ⟨rfl, rfl, rfl⟩ := H
  go_enter Try.func26, Try.ntmps26
  go_wp2_with (first | ((with_reducible refine gate_dst (N := 2) rfl ?_); refine box_event ?hg (N := 2) ?hd (cs := #[.slice none 0 0, .slice none 0 0, .int .i64 0]) (t := 35) ?hr ?_; (case hd => rfl); (case hg => rfl); (case hr => first | (go_simp; done) | (go_simp; rfl)); intro gb154 hg w3 hbox hb; have n0_ := Aside0.mk (below_step (by repeat (first | (with_reducible first | exact HB.out | apply below_alloc | apply pw_below_drewN | apply below_drew1) | exact HB.out)) hb); have n1_ := Aside0.mk (hbox); have n2_ := Aside0.mk ((by rw [hg]; exact (below_size (by repeat (first | (with_reducible first | exact HB.out | apply below_alloc | apply pw_below_drewN | apply below_drew1) | exact HB.out))) : w.heap.size ≤ gb154)); have n3_ := Aside0.mk ((by rw [hg]; exact (below_size (by repeat (first | (with_reducible first | exact HB.out | apply below_alloc | apply pw_below_drewN | apply below_drew1) | exact HB.out))) : w.heap.size ≤ gb154)); clear HB; have HB := n0_; have BK154 := n1_; have GW154 := n2_; have GE154 := n3_; clear n0_ n1_ n2_ n3_; clear hb hbox hg) | ((with_reducible refine gate_callee (f := 80) rfl ?_); refine goesL_ (some 8) rfl rfl Try.func80 (by kernel_rfl) rfl #[.slice A0 l0.length c0] rfl (by (try simp only [List.map_toArray, List.map_cons, List.map_nil]); first | done | rfl | (simp only [List.length_drop, List.length_take]; rfl)) ?_; (with_reducible refine (journal_Read.calls k _ _ l0 t155 t156 t157 _ ?side1 ?side2 A2.out).mono ?_); (case side1 => repeat (first | exact (Kd.C_below HR0.out HB.out) | (with_reducible refine Kd.C_alloc ?_ _) | (with_reducible refine Kd.C_drewN ?_ _) | (with_reducible refine Kd.C_drew ?_))); (case side2 => exact HC0.out); rintro e w4 ⟨v158, v160, rfl, ho0, ho1, hb⟩; refine ⟨_, rfl, ?_⟩; have n0_ := Aside0.mk (Kd.S_lower ho0 (below_size (by repeat (first | (with_reducible first | exact HB.out | apply below_alloc | apply pw_below_drewN | apply below_drew1 | refine below_set ?_ GE154.out) | exact HB.out)))); have n1_ := Aside0.mk (Kd.R_lower ho1 (below_size (by repeat (first | (with_reducible first | exact HB.out | apply below_alloc | apply pw_below_drewN | apply below_drew1 | refine below_set ?_ GE154.out) | exact HB.out)))); have n2_ := Aside0.mk (blk_below (g := gb154) (o := .cells #[.slice none 0 0, .slice none 0 0, .int .i64 0] 35 (0, 0)) (by (with_reducible repeat (first | refine blk_drewN ?_ _ | refine blk_drew ?_ | refine blk_alloc ?_ _)); exact BK154.out) hb); have n3_ := Aside0.mk (below_step (by repeat (first | (with_reducible first | exact HB.out | apply below_alloc | apply pw_below_drewN | apply below_drew1 | refine below_set ?_ GE154.out) | exact HB.out)) hb); clear BK154; clear HB; have HO159 := n0_; have HO161 := n1_; have BK154 := n2_; have HB := n3_; clear n0_ n1_ n2_ n3_; (try clear hb); (try clear hb2); (try clear hk); (try clear hi); (try clear ho0); (try clear ho1); obtain ⟨Ao5, co5, eo5⟩ := Kd.R_slice HO161.out; subst eo5; obtain ⟨Ao6, co6, eo6⟩ := Kd.S_slice HO159.out; subst eo6; have hcz7_0 : w4.cell? ⟨gb154, 0, none⟩ = some (.slice none 0 0) := (blk_cell BK154.out 0).trans rfl; have hcz7_1 : w4.cell? ⟨gb154, 1, none⟩ = some (.slice none 0 0) := (blk_cell BK154.out 1).trans rfl; have hcz7_2 : w4.cell? ⟨gb154, 2, none⟩ = some (.int .i64 0) := (blk_cell BK154.out 2).trans rfl; have hfz7_0 := blk_frozen BK154.out 0; have hfz7_1 := blk_frozen BK154.out 1; have hfz7_2 := blk_frozen BK154.out 2))
  refine bodyPost_ret (results_cell_row rfl _ _ gb154 35 #[.slice Ao6 t155.length co6, .slice Ao5 t156.length co5, .int .i64 t157] (0, 0) _ rfl (by (with_reducible repeat (first | refine blk_drewN ?_ _ | refine blk_drew ?_ | refine blk_alloc ?_ _)); refine blk_put (cs := #[.slice Ao6 t155.length co6, .slice Ao5 t156.length co5, .int .i64 0]) ?_ 2 _ rfl; (with_reducible repeat (first | refine blk_drewN ?_ _ | refine blk_drew ?_ | refine blk_alloc ?_ _)); refine blk_put (cs := #[.slice Ao6 t155.length co6, .slice none 0 0, .int .i64 0]) ?_ 1 _ rfl; (with_reducible repeat (first | refine blk_drewN ?_ _ | refine blk_drew ?_ | refine blk_alloc ?_ _)); refine blk_put (cs := #[.slice none 0 0, .slice none 0 0, .int .i64 0]) ?_ 0 _ rfl; (with_reducible repeat (first | refine blk_drewN ?_ _ | refine blk_drew ?_ | refine blk_alloc ?_ _)); exact BK154.out) Try.underlying35 rfl (by kernel_rfl)) rfl ?_
  exact ⟨_, _, by first | rfl | (simp [errW_none, errW_some] <;> rfl) | (simp [*, errW_none, errW_some] <;> rfl), by (with_reducible repeat (first | apply Kd.S_alloc | apply Kd.S_drewN | apply Kd.S_drew)); exact Kd.S_mono (Kd.S_far (p := ⟨gb154, 2, none⟩) (Kd.S_far (p := ⟨gb154, 1, none⟩) (Kd.S_far (p := ⟨gb154, 0, none⟩) (Kd.S_types HO159.out BK154.out (by decide)) (fun _ hk => hk.2) (.slice Ao6 t155.length co6)) (fun _ hk => hk.2) (.slice Ao5 t156.length co5)) (fun _ hk => hk.2) (.int .i64 t157)) (fun _ hk => trivial), by (with_reducible repeat (first | apply Kd.R_alloc | apply Kd.R_drewN | apply Kd.R_drew)); exact Kd.R_mono (Kd.R_far (p := ⟨gb154, 2, none⟩) (Kd.R_far (p := ⟨gb154, 1, none⟩) (Kd.R_far (p := ⟨gb154, 0, none⟩) (Kd.R_types HO161.out BK154.out (by decide)) (fun _ hk => hk.2) (.slice Ao6 t155.length co6)) (fun _ hk => hk.2) (.slice Ao5 t156.length co5)) (fun _ hk => hk.2) (.int .i64 t157)) (fun _ hk => trivial), by repeat (first | (with_reducible first | exact HB.out | apply below_alloc | apply pw_below_drewN | apply below_drew1 | refine below_set ?_ GE154.out) | exact HB.out)⟩

/-! ### journal_add_uint64: function 82 -/
mutual
def journal_add_uint64.l0 : Nat → List Int → List Int → Int → Int → Option (List Int)
  | 0, _, _, _, _ => none
  | k + 1, x0, x8, x9, x10 => if x10 < x9 then (if 0 ≤ x10 then (if x10 < (x8.length : Int) then (journal_add_uint64.l1 k x0 (rd x8 x10) x8 x9 x10 0) else (none)) else (none)) else (some x0)
def journal_add_uint64.l1 : Nat → List Int → Int → List Int → Int → Int → Int → Option (List Int)
  | 0, _, _, _, _, _, _ => none
  | k + 1, x0, x6, x8, x9, x10, x14 => if x14 < 8 then (if 0 ≤ (wrap64 (8 * x14)) then (if x0.length < 140737488355328 then (journal_add_uint64.l1 k (x0 ++ [(shr .u64 x6 (wrap64 (8 * x14))) % 256]) x6 x8 x9 x10 (wrap64 (x14 + 1))) else (none)) else (none)) else (journal_add_uint64.l0 k x0 x8 x9 (wrap64 (x10 + 1)))
end
def journal_add_uint64.f (k : Nat) (l0 : List Int) (l1 : List Int) : Option (List Int) := journal_add_uint64.l0 k l0 l1 (l1.length : Int) 0
theorem journal_add_uint64.mono_l : ∀ k, (∀ y0 y1 y2 y3, LeO (journal_add_uint64.l0 k y0 y1 y2 y3) (journal_add_uint64.l0 (k + 1) y0 y1 y2 y3)) ∧ (∀ y0 y1 y2 y3 y4 y5, LeO (journal_add_uint64.l1 k y0 y1 y2 y3 y4 y5) (journal_add_uint64.l1 (k + 1) y0 y1 y2 y3 y4 y5))
  | 0 => ⟨fun _ _ _ _ r h => by simp [journal_add_uint64.l0] at h, fun _ _ _ _ _ _ r h => by simp [journal_add_uint64.l1] at h⟩
  | k + 1 => by
    obtain ⟨ih0, ih1⟩ := journal_add_uint64.mono_l k
    refine ⟨?_, ?_⟩
    · intro y0 y1 y2 y3
      unfold journal_add_uint64.l0
      repeat' first
      | (with_reducible exact ih0 _ _ _ _)
      | (with_reducible exact ih1 _ _ _ _ _ _)
      | (with_reducible exact LeO.refl _)
      | (with_reducible exact LeO.none _)
      | (with_reducible refine LeO.ite ?_ ?_)
      | (with_reducible refine LeO.bind ?_ (fun _ => ?_))
      | exact ih0 _ _ _ _
      | exact ih1 _ _ _ _ _ _
      | exact LeO.none _
      | refine LeO.ite ?_ ?_
      | refine LeO.bind ?_ (fun _ => ?_)
    · intro y0 y1 y2 y3 y4 y5
      unfold journal_add_uint64.l1
      repeat' first
      | (with_reducible exact ih0 _ _ _ _)
      | (with_reducible exact ih1 _ _ _ _ _ _)
      | (with_reducible exact LeO.refl _)
      | (with_reducible exact LeO.none _)
      | (with_reducible refine LeO.ite ?_ ?_)
      | (with_reducible refine LeO.bind ?_ (fun _ => ?_))
      | exact ih0 _ _ _ _
      | exact ih1 _ _ _ _ _ _
      | exact LeO.none _
      | refine LeO.ite ?_ ?_
      | refine LeO.bind ?_ (fun _ => ?_)
theorem journal_add_uint64.mono : ∀ a0 a1 k, LeO (journal_add_uint64.f k a0 a1) (journal_add_uint64.f (k + 1) a0 a1) := by
  intro a0 a1 k
  obtain ⟨ih0, ih1⟩ := journal_add_uint64.mono_l k
  unfold journal_add_uint64.f
  repeat' first
      | (with_reducible exact ih0 _ _ _ _)
      | (with_reducible exact ih1 _ _ _ _ _ _)
      | (with_reducible exact LeO.refl _)
      | (with_reducible exact LeO.none _)
      | (with_reducible refine LeO.ite ?_ ?_)
      | (with_reducible refine LeO.bind ?_ (fun _ => ?_))
      | exact ih0 _ _ _ _
      | exact ih1 _ _ _ _ _ _
      | exact LeO.none _
      | refine LeO.ite ?_ ?_
      | refine LeO.bind ?_ (fun _ => ?_)
set_option maxHeartbeats 8000000 in
set_option maxRecDepth 100000 in
theorem journal_add_uint64.calls (k : Nat) (P0_ : Nat → Prop) (u9000_ : Value) (l0 : List Int) (A1 : Option Addr) (c1 : Nat) (l1 : List Int) (r : List Int) (w0 w : World) (hB : Below w0.heap.size w0 w) (ho0 : Kd.R (Kd.int .u8) 5 w w0.heap.size P0_ u9000_ l0) (hr1 : ∀ W_, Kept w W_ (fun k_ => P0_ k_) → Kd.C (Kd.int .u64) W_ A1 l1.length l1) (hc1 : l1.length ≤ c1) (h : journal_add_uint64.f k l0 l1 = some r) :
    Calls Try.prog 82 #[u9000_, .slice A1 l1.length c1] w fun e w' => ∃ v0_ : Value, e = .returned (v0_) ∧ Kd.R (Kd.int .u8) 5 w' w0.heap.size (fun k_ => (P0_ k_ ∨ w.heap.size ≤ k_)) v0_ r ∧ Below w0.heap.size w0 w' ∧ Kept w w' (fun k_ => P0_ k_) := by
  have HO0 := Aside0.mk (show Kd.R (Kd.int .u8) 5 w w0.heap.size (fun k_ => (P0_ k_ ∨ w.heap.size ≤ k_)) u9000_ l0 from Kd.R_mono ho0 (fun k_ hk => (.inl hk)))
  have HR1 := Aside0.mk hr1
  have HC1 := Aside0.mk hc1
  clear hr1 hc1
  have HK := Aside0.mk (Kept.refl w (fun k_ => P0_ k_))
  have HW0 := Aside0.mk hB.size
  have HB := Aside0.mk hB
  clear hB
  have H : (journal_add_uint64.l0 k l0 l1 (l1.length : Int) 0) = some r := h
  clear h
  have H' := Aside0.mk H
  clear H
  go_enter Try.func82, Try.ntmps82
  go_wp2
  go_loopg [0, 10] k (fun kq v0 v10 w' => ∃ (x0_1 : List Int) (x10_1 : Int), v10 = .int .i64 x10_1 ∧ Aside0 (journal_add_uint64.l0 kq x0_1 l1 (l1.length : Int) x10_1 = some r) ∧ Aside0 (kq ≤ k) ∧ Aside0 (Kd.R (Kd.int .u8) 5 w' w0.heap.size (fun k_ => (P0_ k_ ∨ w.heap.size ≤ k_)) v0 x0_1) ∧ Aside0 (Kept w w' (fun k_ => P0_ k_)) ∧ Aside0 (Below w0.heap.size w0 w'))
  case atStart => exact ⟨(l0), (0), (by first | rfl | (simp; done) | (congr 2; (try unfold wrap64); omega) | (simp [*]; done)), H', ⟨Nat.le_refl _⟩, ⟨by (with_reducible repeat (first | apply Kd.R_alloc | apply Kd.R_drewN | apply Kd.R_drew)); exact HO0.out⟩, ⟨by repeat (first | (with_reducible first | exact HK.out | apply Kept.alloc | apply Kept.drewN | apply Kept.drew) | exact HK.out)⟩, ⟨by repeat (first | (with_reducible first | exact HB.out | apply below_alloc | apply pw_below_drewN | apply below_drew1) | exact HB.out)⟩⟩
  case round =>
    clear H'
    try clear c1
    try clear p2
    obtain ⟨x0_1, x10_1, rfl, HA, HK1, HO_0, HK, HB⟩ := hrel
    cases gk with
    | zero => exact absurd HA.out (by simp [journal_add_uint64.l0])
    | succ k1 =>
      have H := HA.out
      clear HA
      simp only [journal_add_uint64.l0] at H
      by_cases c3 : x10_1 < (l1.length : Int)
      · rw [if_pos c3] at H
        have c3b0 : decide (x10_1 < (l1.length : Int)) = true := decide_eq_true c3
        clear c3
        by_cases c4 : 0 ≤ x10_1
        · rw [if_pos c4] at H
          have c4b0 : decide (0 ≤ x10_1) = true := decide_eq_true c4
          clear c4
          by_cases c5 : x10_1 < (l1.length : Int)
          · rw [if_pos c5] at H
            have c5b0 : decide (x10_1 < (l1.length : Int)) = true := decide_eq_true c5
            clear c5
            have H' := Aside0.mk H
            clear H
            have p162 : 0 ≤ (x10_1 : Int) := of_decide_eq_true (by first | (with_reducible assumption) | assumption)
            have q162 : x10_1 < (l1.length : Int) := of_decide_eq_true (by first | (with_reducible assumption) | assumption)
            obtain ⟨ad162, e162, hx162_0⟩ := Kd.at_int (Kd.C_kept_now HR1.out HK.out) x10_1 p162 q162
            cases e162
            replace p162 := eq_true p162
            replace q162 := eq_true q162
            go_wp2
            go_loopg [0, 14] k1 (fun kq v0 v14 w' => ∃ (x0_2 : List Int) (x14_2 : Int), v14 = .int .i64 x14_2 ∧ Aside0 (journal_add_uint64.l1 kq x0_2 (rd l1 x10_1) l1 (l1.length : Int) x10_1 x14_2 = some r) ∧ Aside0 (kq ≤ k1) ∧ Aside0 (Kd.R (Kd.int .u8) 5 w' w0.heap.size (fun k_ => (P0_ k_ ∨ w.heap.size ≤ k_)) v0 x0_2) ∧ Aside0 (Kept w w' (fun k_ => P0_ k_)) ∧ Aside0 (Below w0.heap.size w0 w'))
            case atStart => exact ⟨(x0_1), (0), (by first | rfl | (simp; done) | (congr 2; (try unfold wrap64); omega) | (simp [*]; done)), H', ⟨Nat.le_refl _⟩, ⟨by (with_reducible repeat (first | apply Kd.R_alloc | apply Kd.R_drewN | apply Kd.R_drew)); exact HO_0.out⟩, ⟨by repeat (first | (with_reducible first | exact HK.out | apply Kept.alloc | apply Kept.drewN | apply Kept.drew) | exact HK.out)⟩, ⟨by repeat (first | (with_reducible first | exact HB.out | apply below_alloc | apply pw_below_drewN | apply below_drew1) | exact HB.out)⟩⟩
            case round =>
              clear H'
              try clear c1
              try clear p1
              try clear q1
              try clear hx1
              try clear p2
              try clear c3
              try clear c3b0
              try clear c4
              try clear c4b0
              try clear c5
              try clear c5b0
              try clear hx162_0
              try clear p162
              try clear p2
              try clear q162
              obtain ⟨x0_2, x14_2, rfl, HA, HK2, HO_0, HK, HB⟩ := hrel
              cases gk with
              | zero => exact absurd HA.out (by simp [journal_add_uint64.l1])
              | succ k2 =>
                have H := HA.out
                clear HA
                simp only [journal_add_uint64.l1] at H
                by_cases c6 : x14_2 < 8
                · rw [if_pos c6] at H
                  have c6b0 : decide (x14_2 < 8) = true := decide_eq_true c6
                  clear c6
                  obtain ⟨ji7, hji7⟩ : ∃ j_ : Int, (wrap64 (8 * x14_2)) = j_ := ⟨_, rfl⟩
                  replace H : (if 0 ≤ (ji7) then (if x0_2.length < 140737488355328 then (journal_add_uint64.l1 k2 (x0_2 ++ [(shr .u64 (rd l1 x10_1) (ji7)) % 256]) (rd l1 x10_1) l1 (l1.length : Int) x10_1 (wrap64 (x14_2 + 1))) else (none)) else (none)) = some r := by first | (rw [hji7] at H; exact H) | (simp only [hji7] at H ⊢; exact H)
                  have hji7w : (IntKind.i64.wrap (8 * x14_2)) = ji7 := (i64_w _).trans hji7
                  by_cases c8 : 0 ≤ (ji7)
                  · rw [if_pos c8] at H
                    have c8b0 := eq_true c8
                    have c8b1 : decide (0 ≤ (ji7)) = true := decide_eq_true c8
                    clear c8
                    obtain ⟨ji9, hji9⟩ : ∃ j_ : Int, (shr .u64 (rd l1 x10_1) (ji7)) = j_ := ⟨_, rfl⟩
                    replace H : (if x0_2.length < 140737488355328 then (journal_add_uint64.l1 k2 (x0_2 ++ [(ji9) % 256]) (rd l1 x10_1) l1 (l1.length : Int) x10_1 (wrap64 (x14_2 + 1))) else (none)) = some r := by first | (rw [hji9] at H; exact H) | (simp only [hji9] at H ⊢; exact H)
                    have hji9_ : ((rd l1 x10_1) / 2 ^ min (ji7).toNat 64) = ji9 := hji9
                    have hji9z : (ji7) ≤ 64 → ((rd l1 x10_1) / 2 ^ (ji7).toNat) = ji9 := shr_small hji9
                    by_cases c10 : x0_2.length < 140737488355328
                    · rw [if_pos c10] at H
                      have LMc10 := Aside0.mk c10
                      clear c10
                      obtain ⟨y163, hy163⟩ : ∃ y_ : List Int, y_ = (x0_2 ++ [(ji9) % 256]) := ⟨_, rfl⟩
                      replace H : (journal_add_uint64.l1 k2 y163 (rd l1 x10_1) l1 (l1.length : Int) x10_1 (wrap64 (x14_2 + 1))) = some r := by first | (rw [hy163]; with_reducible exact H) | (have H2_ := (Option.bind_some _ _).symm.trans H; rw [hy163]; with_reducible exact H2_) | (have H2_ := (Option.bind_some _ _).symm.trans H; with_reducible exact H2_) | with_reducible exact H | (rw [hy163]; exact H) | exact H
                      have Ny163 := Aside0.mk hy163
                      clear hy163
                      have H' := Aside0.mk H
                      clear H
                      go_wp2_with (first | ((with_reducible refine gate_builtin (b := .append) (xs := #[.tmp 17, .tmp 23]) rfl ?_); at_builtin; refine Kd.R_append (Kd.int .u8) (w0 := w0) w0.heap.size rfl (.tmp 17) (.tmp 23) 22 5 (.int .u8 0) 1 rfl Try.underlying22 info5 rfl (by decide) (by omega) u0 x0_2 ((ji9) % 256) [.int .u8 ((ji9) % 256)] (fun k_ => (P0_ k_ ∨ w.heap.size ≤ k_)) (fun _ => False) rfl rfl ?aP (fun _ hk => hk.elim) ?aF ?aO ?aB ?aS ?aL ?_; (case aP => exact rfl); (case aB => exact (by repeat (first | (with_reducible first | exact HB.out | apply below_alloc | apply pw_below_drewN | apply below_drew1) | exact HB.out))); (case aF => exact (fun k_ hk => (.inr (Nat.le_trans (by first | exact HK.out.1 | exact (show Kept w _ (fun k_ => P0_ k_) from by repeat (first | (with_reducible first | exact HK.out | apply Kept.alloc | apply Kept.drewN | apply Kept.drew) | exact HK.out)).1) hk)))); (case aO => exact (by (with_reducible repeat (first | apply Kd.R_alloc | apply Kd.R_drewN | apply Kd.R_drew)); exact HO_0.out)); (case aS => exact (below_size (by repeat (first | (with_reducible first | exact HB.out | apply below_alloc | apply pw_below_drewN | apply below_drew1) | exact HB.out)))); (case aL => have := LMc10.out; omega); intro v164 w11 ho hb hg hat; rw [← Ny163.out] at ho; have n0_ := Aside0.mk (hb); have n1_ := Aside0.mk (Kept.of_grown (S := (fun k_ => P0_ k_)) hg (by repeat (first | (with_reducible first | exact HK.out | apply Kept.alloc | apply Kept.drewN | apply Kept.drew) | exact HK.out)) (fun k_ e_ => (HO_0.out.1 k_ e_))); have n2_ := Aside0.mk (ho); clear HB; clear HK; clear HO_0; have HB := n0_; have HK := n1_; have HO165 := n2_; clear n0_ n1_ n2_; clear ho hb hg hat))
                      go_roundg k2
                      case measure => have := HK1.out; have := HK2.out; omega
                      case rel => exact ⟨(y163), (wrap64 (x14_2 + 1)), (by first | rfl | (simp; done) | (congr 2; (try unfold wrap64); omega) | (simp [*]; done)), H', ⟨by have := HK1.out; have := HK2.out; omega⟩, ⟨by (with_reducible repeat (first | apply Kd.R_alloc | apply Kd.R_drewN | apply Kd.R_drew)); exact HO165.out⟩, ⟨by repeat (first | (with_reducible first | exact HK.out | apply Kept.alloc | apply Kept.drewN | apply Kept.drew) | exact HK.out)⟩, ⟨by repeat (first | (with_reducible first | exact HB.out | apply below_alloc | apply pw_below_drewN | apply below_drew1) | exact HB.out)⟩⟩
                    · rw [if_neg c10] at H
                      exact absurd H (by simp)
                  · rw [if_neg c8] at H
                    exact absurd H (by simp)
                · rw [if_neg c6] at H
                  have c6b0 : decide (x14_2 < 8) = false := decide_eq_false c6
                  clear c6
                  have H' := Aside0.mk H
                  clear H
                  go_wp2
                  go_roundg k2
                  case measure => have := HK1.out; have := HK2.out; omega
                  case rel => exact ⟨(x0_2), (wrap64 (x10_1 + 1)), (by first | rfl | (simp; done) | (congr 2; (try unfold wrap64); omega) | (simp [*]; done)), H', ⟨by have := HK1.out; have := HK2.out; omega⟩, ⟨by (with_reducible repeat (first | apply Kd.R_alloc | apply Kd.R_drewN | apply Kd.R_drew)); exact HO_0.out⟩, ⟨by repeat (first | (with_reducible first | exact HK.out | apply Kept.alloc | apply Kept.drewN | apply Kept.drew) | exact HK.out)⟩, ⟨by repeat (first | (with_reducible first | exact HB.out | apply below_alloc | apply pw_below_drewN | apply below_drew1) | exact HB.out)⟩⟩
          · rw [if_neg c5] at H
            exact absurd H (by simp)
        · rw [if_neg c4] at H
          exact absurd H (by simp)
      · rw [if_neg c3] at H
        have c3b0 : decide (x10_1 < (l1.length : Int)) = false := decide_eq_false c3
        clear c3
        obtain rfl := Option.some.inj H
        go_wp2
        go_ret
        exact ⟨_, by first | rfl | (simp [errW_none, errW_some] <;> rfl) | (simp [*, errW_none, errW_some] <;> rfl), by (with_reducible repeat (first | apply Kd.R_alloc | apply Kd.R_drewN | apply Kd.R_drew)); exact HO_0.out, by repeat (first | (with_reducible first | exact HB.out | apply below_alloc | apply pw_below_drewN | apply below_drew1) | exact HB.out), by repeat (first | (with_reducible first | exact HK.out | apply Kept.alloc | apply Kept.drewN | apply Kept.drew) | exact HK.out)⟩

/-! ### journal_add_int: function 84 -/
mutual
def journal_add_int.l0 : Nat → List Int → List Int → Int → Int → Option (List Int)
  | 0, _, _, _, _ => none
  | k + 1, x0, x8, x9, x10 => if x10 < x9 then (if 0 ≤ x10 then (if x10 < (x8.length : Int) then (journal_add_int.l1 k x0 (rd x8 x10) x8 x9 x10 0) else (none)) else (none)) else (some x0)
def journal_add_int.l1 : Nat → List Int → Int → List Int → Int → Int → Int → Option (List Int)
  | 0, _, _, _, _, _, _ => none
  | k + 1, x0, x6, x8, x9, x10, x14 => if x14 < 8 then (if 0 ≤ (wrap64 (8 * x14)) then (if x0.length < 140737488355328 then (journal_add_int.l1 k (x0 ++ [(shr .u64 (IntKind.u64.wrap (x6)) (wrap64 (8 * x14))) % 256]) x6 x8 x9 x10 (wrap64 (x14 + 1))) else (none)) else (none)) else (journal_add_int.l0 k x0 x8 x9 (wrap64 (x10 + 1)))
end
def journal_add_int.f (k : Nat) (l0 : List Int) (l1 : List Int) : Option (List Int) := journal_add_int.l0 k l0 l1 (l1.length : Int) 0
theorem journal_add_int.mono_l : ∀ k, (∀ y0 y1 y2 y3, LeO (journal_add_int.l0 k y0 y1 y2 y3) (journal_add_int.l0 (k + 1) y0 y1 y2 y3)) ∧ (∀ y0 y1 y2 y3 y4 y5, LeO (journal_add_int.l1 k y0 y1 y2 y3 y4 y5) (journal_add_int.l1 (k + 1) y0 y1 y2 y3 y4 y5))
  | 0 => ⟨fun _ _ _ _ r h => by simp [journal_add_int.l0] at h, fun _ _ _ _ _ _ r h => by simp [journal_add_int.l1] at h⟩
  | k + 1 => by
    obtain ⟨ih0, ih1⟩ := journal_add_int.mono_l k
    refine ⟨?_, ?_⟩
    · intro y0 y1 y2 y3
      unfold journal_add_int.l0
      repeat' first
      | (with_reducible exact ih0 _ _ _ _)
      | (with_reducible exact ih1 _ _ _ _ _ _)
      | (with_reducible exact LeO.refl _)
      | (with_reducible exact LeO.none _)
      | (with_reducible refine LeO.ite ?_ ?_)
      | (with_reducible refine LeO.bind ?_ (fun _ => ?_))
      | exact ih0 _ _ _ _
      | exact ih1 _ _ _ _ _ _
      | exact LeO.none _
      | refine LeO.ite ?_ ?_
      | refine LeO.bind ?_ (fun _ => ?_)
    · intro y0 y1 y2 y3 y4 y5
      unfold journal_add_int.l1
      repeat' first
      | (with_reducible exact ih0 _ _ _ _)
      | (with_reducible exact ih1 _ _ _ _ _ _)
      | (with_reducible exact LeO.refl _)
      | (with_reducible exact LeO.none _)
      | (with_reducible refine LeO.ite ?_ ?_)
      | (with_reducible refine LeO.bind ?_ (fun _ => ?_))
      | exact ih0 _ _ _ _
      | exact ih1 _ _ _ _ _ _
      | exact LeO.none _
      | refine LeO.ite ?_ ?_
      | refine LeO.bind ?_ (fun _ => ?_)
theorem journal_add_int.mono : ∀ a0 a1 k, LeO (journal_add_int.f k a0 a1) (journal_add_int.f (k + 1) a0 a1) := by
  intro a0 a1 k
  obtain ⟨ih0, ih1⟩ := journal_add_int.mono_l k
  unfold journal_add_int.f
  repeat' first
      | (with_reducible exact ih0 _ _ _ _)
      | (with_reducible exact ih1 _ _ _ _ _ _)
      | (with_reducible exact LeO.refl _)
      | (with_reducible exact LeO.none _)
      | (with_reducible refine LeO.ite ?_ ?_)
      | (with_reducible refine LeO.bind ?_ (fun _ => ?_))
      | exact ih0 _ _ _ _
      | exact ih1 _ _ _ _ _ _
      | exact LeO.none _
      | refine LeO.ite ?_ ?_
      | refine LeO.bind ?_ (fun _ => ?_)
set_option maxHeartbeats 8000000 in
set_option maxRecDepth 100000 in
theorem journal_add_int.calls (k : Nat) (P0_ : Nat → Prop) (u9000_ : Value) (l0 : List Int) (A1 : Option Addr) (c1 : Nat) (l1 : List Int) (r : List Int) (w0 w : World) (hB : Below w0.heap.size w0 w) (ho0 : Kd.R (Kd.int .u8) 5 w w0.heap.size P0_ u9000_ l0) (hr1 : ∀ W_, Kept w W_ (fun k_ => P0_ k_) → Kd.C (Kd.int .i64) W_ A1 l1.length l1) (hc1 : l1.length ≤ c1) (h : journal_add_int.f k l0 l1 = some r) :
    Calls Try.prog 84 #[u9000_, .slice A1 l1.length c1] w fun e w' => ∃ v0_ : Value, e = .returned (v0_) ∧ Kd.R (Kd.int .u8) 5 w' w0.heap.size (fun k_ => (P0_ k_ ∨ w.heap.size ≤ k_)) v0_ r ∧ Below w0.heap.size w0 w' ∧ Kept w w' (fun k_ => P0_ k_) := by
  have HO0 := Aside0.mk (show Kd.R (Kd.int .u8) 5 w w0.heap.size (fun k_ => (P0_ k_ ∨ w.heap.size ≤ k_)) u9000_ l0 from Kd.R_mono ho0 (fun k_ hk => (.inl hk)))
  have HR1 := Aside0.mk hr1
  have HC1 := Aside0.mk hc1
  clear hr1 hc1
  have HK := Aside0.mk (Kept.refl w (fun k_ => P0_ k_))
  have HW0 := Aside0.mk hB.size
  have HB := Aside0.mk hB
  clear hB
  have H : (journal_add_int.l0 k l0 l1 (l1.length : Int) 0) = some r := h
  clear h
  have H' := Aside0.mk H
  clear H
  go_enter Try.func84, Try.ntmps84
  go_wp2
  go_loopg [0, 10] k (fun kq v0 v10 w' => ∃ (x0_1 : List Int) (x10_1 : Int), v10 = .int .i64 x10_1 ∧ Aside0 (journal_add_int.l0 kq x0_1 l1 (l1.length : Int) x10_1 = some r) ∧ Aside0 (kq ≤ k) ∧ Aside0 (Kd.R (Kd.int .u8) 5 w' w0.heap.size (fun k_ => (P0_ k_ ∨ w.heap.size ≤ k_)) v0 x0_1) ∧ Aside0 (Kept w w' (fun k_ => P0_ k_)) ∧ Aside0 (Below w0.heap.size w0 w'))
  case atStart => exact ⟨(l0), (0), (by first | rfl | (simp; done) | (congr 2; (try unfold wrap64); omega) | (simp [*]; done)), H', ⟨Nat.le_refl _⟩, ⟨by (with_reducible repeat (first | apply Kd.R_alloc | apply Kd.R_drewN | apply Kd.R_drew)); exact HO0.out⟩, ⟨by repeat (first | (with_reducible first | exact HK.out | apply Kept.alloc | apply Kept.drewN | apply Kept.drew) | exact HK.out)⟩, ⟨by repeat (first | (with_reducible first | exact HB.out | apply below_alloc | apply pw_below_drewN | apply below_drew1) | exact HB.out)⟩⟩
  case round =>
    clear H'
    try clear c1
    try clear p2
    obtain ⟨x0_1, x10_1, rfl, HA, HK1, HO_0, HK, HB⟩ := hrel
    cases gk with
    | zero => exact absurd HA.out (by simp [journal_add_int.l0])
    | succ k1 =>
      have H := HA.out
      clear HA
      simp only [journal_add_int.l0] at H
      by_cases c3 : x10_1 < (l1.length : Int)
      · rw [if_pos c3] at H
        have c3b0 : decide (x10_1 < (l1.length : Int)) = true := decide_eq_true c3
        clear c3
        by_cases c4 : 0 ≤ x10_1
        · rw [if_pos c4] at H
          have c4b0 : decide (0 ≤ x10_1) = true := decide_eq_true c4
          clear c4
          by_cases c5 : x10_1 < (l1.length : Int)
          · rw [if_pos c5] at H
            have c5b0 : decide (x10_1 < (l1.length : Int)) = true := decide_eq_true c5
            clear c5
            have H' := Aside0.mk H
            clear H
            have p166 : 0 ≤ (x10_1 : Int) := of_decide_eq_true (by first | (with_reducible assumption) | assumption)
            have q166 : x10_1 < (l1.length : Int) := of_decide_eq_true (by first | (with_reducible assumption) | assumption)
            obtain ⟨ad166, e166, hx166_0⟩ := Kd.at_int (Kd.C_kept_now HR1.out HK.out) x10_1 p166 q166
            cases e166
            replace p166 := eq_true p166
            replace q166 := eq_true q166
            go_wp2
            go_loopg [0, 14] k1 (fun kq v0 v14 w' => ∃ (x0_2 : List Int) (x14_2 : Int), v14 = .int .i64 x14_2 ∧ Aside0 (journal_add_int.l1 kq x0_2 (rd l1 x10_1) l1 (l1.length : Int) x10_1 x14_2 = some r) ∧ Aside0 (kq ≤ k1) ∧ Aside0 (Kd.R (Kd.int .u8) 5 w' w0.heap.size (fun k_ => (P0_ k_ ∨ w.heap.size ≤ k_)) v0 x0_2) ∧ Aside0 (Kept w w' (fun k_ => P0_ k_)) ∧ Aside0 (Below w0.heap.size w0 w'))
            case atStart => exact ⟨(x0_1), (0), (by first | rfl | (simp; done) | (congr 2; (try unfold wrap64); omega) | (simp [*]; done)), H', ⟨Nat.le_refl _⟩, ⟨by (with_reducible repeat (first | apply Kd.R_alloc | apply Kd.R_drewN | apply Kd.R_drew)); exact HO_0.out⟩, ⟨by repeat (first | (with_reducible first | exact HK.out | apply Kept.alloc | apply Kept.drewN | apply Kept.drew) | exact HK.out)⟩, ⟨by repeat (first | (with_reducible first | exact HB.out | apply below_alloc | apply pw_below_drewN | apply below_drew1) | exact HB.out)⟩⟩
            case round =>
              clear H'
              try clear c1
              try clear p1
              try clear q1
              try clear hx1
              try clear p2
              try clear c3
              try clear c3b0
              try clear c4
              try clear c4b0
              try clear c5
              try clear c5b0
              try clear hx166_0
              try clear p166
              try clear p2
              try clear q166
              obtain ⟨x0_2, x14_2, rfl, HA, HK2, HO_0, HK, HB⟩ := hrel
              cases gk with
              | zero => exact absurd HA.out (by simp [journal_add_int.l1])
              | succ k2 =>
                have H := HA.out
                clear HA
                simp only [journal_add_int.l1] at H
                by_cases c6 : x14_2 < 8
                · rw [if_pos c6] at H
                  have c6b0 : decide (x14_2 < 8) = true := decide_eq_true c6
                  clear c6
                  obtain ⟨ji7, hji7⟩ : ∃ j_ : Int, (wrap64 (8 * x14_2)) = j_ := ⟨_, rfl⟩
                  replace H : (if 0 ≤ (ji7) then (if x0_2.length < 140737488355328 then (journal_add_int.l1 k2 (x0_2 ++ [(shr .u64 (IntKind.u64.wrap ((rd l1 x10_1))) (ji7)) % 256]) (rd l1 x10_1) l1 (l1.length : Int) x10_1 (wrap64 (x14_2 + 1))) else (none)) else (none)) = some r := by first | (rw [hji7] at H; exact H) | (simp only [hji7] at H ⊢; exact H)
                  have hji7w : (IntKind.i64.wrap (8 * x14_2)) = ji7 := (i64_w _).trans hji7
                  by_cases c8 : 0 ≤ (ji7)
                  · rw [if_pos c8] at H
                    have c8b0 := eq_true c8
                    have c8b1 : decide (0 ≤ (ji7)) = true := decide_eq_true c8
                    clear c8
                    obtain ⟨ji9, hji9⟩ : ∃ j_ : Int, (shr .u64 (IntKind.u64.wrap ((rd l1 x10_1))) (ji7)) = j_ := ⟨_, rfl⟩
                    replace H : (if x0_2.length < 140737488355328 then (journal_add_int.l1 k2 (x0_2 ++ [(ji9) % 256]) (rd l1 x10_1) l1 (l1.length : Int) x10_1 (wrap64 (x14_2 + 1))) else (none)) = some r := by first | (rw [hji9] at H; exact H) | (simp only [hji9] at H ⊢; exact H)
                    have hji9_ : ((IntKind.u64.wrap ((rd l1 x10_1))) / 2 ^ min (ji7).toNat 64) = ji9 := hji9
                    have hji9z : (ji7) ≤ 64 → ((IntKind.u64.wrap ((rd l1 x10_1))) / 2 ^ (ji7).toNat) = ji9 := shr_small hji9
                    by_cases c10 : x0_2.length < 140737488355328
                    · rw [if_pos c10] at H
                      have LMc10 := Aside0.mk c10
                      clear c10
                      obtain ⟨y167, hy167⟩ : ∃ y_ : List Int, y_ = (x0_2 ++ [(ji9) % 256]) := ⟨_, rfl⟩
                      replace H : (journal_add_int.l1 k2 y167 (rd l1 x10_1) l1 (l1.length : Int) x10_1 (wrap64 (x14_2 + 1))) = some r := by first | (rw [hy167]; with_reducible exact H) | (have H2_ := (Option.bind_some _ _).symm.trans H; rw [hy167]; with_reducible exact H2_) | (have H2_ := (Option.bind_some _ _).symm.trans H; with_reducible exact H2_) | with_reducible exact H | (rw [hy167]; exact H) | exact H
                      have Ny167 := Aside0.mk hy167
                      clear hy167
                      have H' := Aside0.mk H
                      clear H
                      go_wp2_with (first | ((with_reducible refine gate_builtin (b := .append) (xs := #[.tmp 17, .tmp 24]) rfl ?_); at_builtin; refine Kd.R_append (Kd.int .u8) (w0 := w0) w0.heap.size rfl (.tmp 17) (.tmp 24) 22 5 (.int .u8 0) 1 rfl Try.underlying22 info5 rfl (by decide) (by omega) u0 x0_2 ((ji9) % 256) [.int .u8 ((ji9) % 256)] (fun k_ => (P0_ k_ ∨ w.heap.size ≤ k_)) (fun _ => False) rfl rfl ?aP (fun _ hk => hk.elim) ?aF ?aO ?aB ?aS ?aL ?_; (case aP => exact rfl); (case aB => exact (by repeat (first | (with_reducible first | exact HB.out | apply below_alloc | apply pw_below_drewN | apply below_drew1) | exact HB.out))); (case aF => exact (fun k_ hk => (.inr (Nat.le_trans (by first | exact HK.out.1 | exact (show Kept w _ (fun k_ => P0_ k_) from by repeat (first | (with_reducible first | exact HK.out | apply Kept.alloc | apply Kept.drewN | apply Kept.drew) | exact HK.out)).1) hk)))); (case aO => exact (by (with_reducible repeat (first | apply Kd.R_alloc | apply Kd.R_drewN | apply Kd.R_drew)); exact HO_0.out)); (case aS => exact (below_size (by repeat (first | (with_reducible first | exact HB.out | apply below_alloc | apply pw_below_drewN | apply below_drew1) | exact HB.out)))); (case aL => have := LMc10.out; omega); intro v168 w11 ho hb hg hat; rw [← Ny167.out] at ho; have n0_ := Aside0.mk (hb); have n1_ := Aside0.mk (Kept.of_grown (S := (fun k_ => P0_ k_)) hg (by repeat (first | (with_reducible first | exact HK.out | apply Kept.alloc | apply Kept.drewN | apply Kept.drew) | exact HK.out)) (fun k_ e_ => (HO_0.out.1 k_ e_))); have n2_ := Aside0.mk (ho); clear HB; clear HK; clear HO_0; have HB := n0_; have HK := n1_; have HO169 := n2_; clear n0_ n1_ n2_; clear ho hb hg hat))
                      go_roundg k2
                      case measure => have := HK1.out; have := HK2.out; omega
                      case rel => exact ⟨(y167), (wrap64 (x14_2 + 1)), (by first | rfl | (simp; done) | (congr 2; (try unfold wrap64); omega) | (simp [*]; done)), H', ⟨by have := HK1.out; have := HK2.out; omega⟩, ⟨by (with_reducible repeat (first | apply Kd.R_alloc | apply Kd.R_drewN | apply Kd.R_drew)); exact HO169.out⟩, ⟨by repeat (first | (with_reducible first | exact HK.out | apply Kept.alloc | apply Kept.drewN | apply Kept.drew) | exact HK.out)⟩, ⟨by repeat (first | (with_reducible first | exact HB.out | apply below_alloc | apply pw_below_drewN | apply below_drew1) | exact HB.out)⟩⟩
                    · rw [if_neg c10] at H
                      exact absurd H (by simp)
                  · rw [if_neg c8] at H
                    exact absurd H (by simp)
                · rw [if_neg c6] at H
                  have c6b0 : decide (x14_2 < 8) = false := decide_eq_false c6
                  clear c6
                  have H' := Aside0.mk H
                  clear H
                  go_wp2
                  go_roundg k2
                  case measure => have := HK1.out; have := HK2.out; omega
                  case rel => exact ⟨(x0_2), (wrap64 (x10_1 + 1)), (by first | rfl | (simp; done) | (congr 2; (try unfold wrap64); omega) | (simp [*]; done)), H', ⟨by have := HK1.out; have := HK2.out; omega⟩, ⟨by (with_reducible repeat (first | apply Kd.R_alloc | apply Kd.R_drewN | apply Kd.R_drew)); exact HO_0.out⟩, ⟨by repeat (first | (with_reducible first | exact HK.out | apply Kept.alloc | apply Kept.drewN | apply Kept.drew) | exact HK.out)⟩, ⟨by repeat (first | (with_reducible first | exact HB.out | apply below_alloc | apply pw_below_drewN | apply below_drew1) | exact HB.out)⟩⟩
          · rw [if_neg c5] at H
            exact absurd H (by simp)
        · rw [if_neg c4] at H
          exact absurd H (by simp)
      · rw [if_neg c3] at H
        have c3b0 : decide (x10_1 < (l1.length : Int)) = false := decide_eq_false c3
        clear c3
        obtain rfl := Option.some.inj H
        go_wp2
        go_ret
        exact ⟨_, by first | rfl | (simp [errW_none, errW_some] <;> rfl) | (simp [*, errW_none, errW_some] <;> rfl), by (with_reducible repeat (first | apply Kd.R_alloc | apply Kd.R_drewN | apply Kd.R_drew)); exact HO_0.out, by repeat (first | (with_reducible first | exact HB.out | apply below_alloc | apply pw_below_drewN | apply below_drew1) | exact HB.out), by repeat (first | (with_reducible first | exact HK.out | apply Kept.alloc | apply Kept.drewN | apply Kept.drew) | exact HK.out)⟩

end Go.Proofs.Ytcanekmlabehgaa.P46
