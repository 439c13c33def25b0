/- The digest of bytes: an iterator that is bound to its receiver, walked by hand. -/
import Derived.Test.YtbkjdfemamehcaaS03A
namespace Go.Proofs.Ytbkjdfemamehcaa.P03
open Go.RowKit Go.Proofs.YtbkjdfemamehcaaW.PrintWords Go.Proofs.YtbkjdfemamehcaaW.PrintLast
set_option linter.unusedVariables false
section
variable {P : Program}
/-- What an operation does in a round of a range over a function is what it does elsewhere. -/
theorem inround_op {l n : Nat} {o : Oper} {a : Act} {w : World} {K K' : Act → World → Prop} {Q : Exit → Act → World → Prop} (hd : ∀ c, o.op ≠ .defer c) (h : o.wp P a w K Q) (hk : ∀ a w, K a w → K' a w) : o.wpIn (Fence.wide.inRound l) n P a w K' Q := by
  refine ⟨fun _ _ => trivial, ?_⟩
  rw [Fence.inRound_round, Oper.semAt_some l _ _ hd]
  unfold Oper.wp at h
  revert h
  generalize (execOp a.eval o).run P w = r
  intro h
  match r, h with
  | .ok (.value v) w', h => exact hk _ _ h
  | .ok .skip w', h => exact hk _ _ h
  | .ok (.defer d) w', h => exact hk _ _ h
  | .ok (.enter f args) w', h =>
    refine ⟨fun e => absurd e (by simp [Fence.inRound, Fence.wide]), CallsIn.inRound l (callsIn_wide.2 (Calls.mono h ?_))⟩
    intro e w2 he
    cases e with
    | returned v => exact hk _ _ he
    | panicked chain => exact he
    | outgrown => exact he
  | .ok (.row row args) w', h =>
    refine ⟨fun e => absurd e (by simp [Fence.inRound, Fence.wide]), fun c cs _ => ?_⟩
    obtain ⟨v, w2, r, s⟩ := h c cs
    exact ⟨v, w2, hk _ _ r, stepsIn_wide.2 s⟩
  | .ok (.round _ _ _ _ _) w', h => exact h.elim
  | .halt (.panic v) w', h => exact h
  | .halt (.exit _) w', h => exact h.elim
/-- So a list of operations. -/
theorem inround_list {l n : Nat} {ops : Array Oper} {Q : Exit → Act → World → Prop} (hL : ¬ LetsOut Q) : ∀ (rest : List Oper) (a : Act) (w : World), (∀ o ∈ rest, ∀ c, o.op ≠ .defer c) → wpList P ops Q rest a w → wpListIn (Fence.wide.inRound l) n P ops Q rest a w
  | [], a, w, _, h => h
  | o :: rest, a, w, hd, h => by
    unfold wpList at h
    unfold wpListIn
    split at h
    · rename_i hw
      rw [if_pos hw]
      rcases h with h | h
      · exact inround_op (hd o (by simp)) h (fun a w hK => inround_list hL rest a w (fun o ho => hd o (by simp [ho])) hK)
      · exact absurd h.2 hL
    · rename_i hw
      rw [if_neg hw]
      exact ⟨fun _ _ => trivial, inround_list hL rest _ w (fun o ho => hd o (by simp [ho])) h⟩
/-- A round's record, ready. -/
def readyLoop (fn : FuncId) (tm : Array Value) (ps : Array Tmp) (assign body : Code) (D : Nat) (st : LoopState) : Loop := { state := st, pending := none, fn := fn, tmps := tm, params := ps, assign := assign, body := body, defers := D }
/-- A round: the body's walk gives the contract of the call of yield. -/
theorem round_yield {n l D : Nat} {fn : FuncId} {tm : Array Value} {ps : Array Tmp} {assign body : Code} {args : Array Value} {W : World} {R : World → Prop} (a₁ : Act)
    (hl : W.heap[l]? = some (.loop (readyLoop fn tm ps assign body D .ready))) (hps : args.size = ps.size)
    (hassign : ∀ K : Act → World → Prop, K a₁ W → assign.wpIn (Fence.wide.inRound l) n P (Exit.then K (fun _ _ _ => False)) { tmps := (ps.zip args).foldl (fun t (p, v) => t.setIfInBounds p v) tm, defers := [] } W)
    (hbody : ∀ W2, W2 = W.putObj l (.loop (readyLoop fn tm ps assign body D .busy)) → body.wpIn (Fence.wide.inRound l) n P (fun e _ W3 => e = .normal ∧ W3.heap[l]? = some (.loop (readyLoop fn tm ps assign body D .busy)) ∧ R (W3.putObj l (.loop (readyLoop fn tm ps assign body D .ready)))) a₁ W2) :
    YieldAt Fence.wide n P l args W fun e W' => e = .returned (.bool true) ∧ R W' := by
  refine ⟨fn, _, assign, body, run_yield hl hps, roundIn_of_wpIn trivial (hassign _ ⟨_, run_beginRound hl rfl, ?_⟩)⟩
  refine wpIn_mono (hbody _ rfl) ?_
  rintro e a3 W3 ⟨rfl, hl3, hR⟩
  exact ⟨_, _, run_endRound none hl3, rfl, hR⟩
/-- A range over a function that is always asked for more. -/
theorem range_stmt {n : Nat} (h1 : 1 ≤ n) {g : Operand} {ps : Array Tmp} {assign body : Code} {Q : Exit → Act → World → Prop} {a : Act} {w : World} {gf : Nat} {lb : Array Value}
    {fb : Array Value} (hg : a.eval g = .func (.func gf) fb lb) (eg : ∀ args w, (callFunc gf args).run P w = .ok (.enter gf args) w) (J : World → Prop)
    (hcall : ∀ fn W1, W1 = (w.alloc (.deferred (some []))).alloc (.loop (readyLoop fn a.tmps ps assign body w.heap.size .ready)) → CallsIn Fence.wide (n - 1) P gf ((fb ++ #[.func (.yield (w.heap.size + 1)) #[] #[]]) ++ lb) W1 fun e W2 => (∃ v, e = .returned v) ∧ J W2 ∧ W2.heap[w.heap.size + 1]? = some (.loop (readyLoop fn a.tmps ps assign body w.heap.size .ready)) ∧ W2.heap[w.heap.size]? = some (.deferred (some [])))
    (hdone : ∀ fn W2, J W2 → W2.heap[w.heap.size + 1]? = some (.loop (readyLoop fn a.tmps ps assign body w.heap.size .ready)) → W2.heap[w.heap.size]? = some (.deferred (some [])) → Q .normal { a with defers := { target := .collected w.heap.size, args := #[] } :: a.defers } (W2.putObj (w.heap.size + 1) (.loop (readyLoop fn a.tmps ps assign body w.heap.size .exhausted)))) :
    (Code.rangeFunc g ps assign body).wpIn Fence.wide n P Q a w := by
  refine wpIn_rangeFunc ?_
  intro fn hfn
  rw [show Fence.wide.round = none from rfl]
  obtain ⟨W1, hW1⟩ : ∃ W1, (w.alloc (.deferred (some []))).alloc (.loop (readyLoop fn a.tmps ps assign body w.heap.size .ready)) = W1 := ⟨_, rfl⟩
  refine ⟨w.heap.size + 1, [{ target := .collected w.heap.size, args := #[] }], W1, { target := .fn (.func gf) lb, args := fb ++ #[.func (.yield (w.heap.size + 1)) #[] #[]] }, W1, gf,
    (fb ++ #[.func (.yield (w.heap.size + 1)) #[] #[]]) ++ lb, W1, ?_, ?_, fun _ _ => trivial, ?_, fun _ => h1, ?_⟩
  · rw [← hW1]; exact run_enterLoop_outer _ _ _ _ _
  · simp only [resolve, hg]
    simp [go_sem]
  · simp [invoke, go_sem, eg]
  · refine (hcall fn W1 hW1.symm).mono ?_
    rintro e W2 ⟨⟨v, rfl⟩, hJ, hl, hk⟩
    exact ⟨none, _, run_endLoop hl (by simp [readyLoop]), hdone fn W2 hJ hl hk⟩
end

section
attribute [local go_sem] Oper.semAt_some
theorem seal_Bytes.cells {k : IntKind} {W : World} {A : Option Addr} {n : Nat} {xs : List Int} (h : Kd.C (Kd.int k) W A n xs) (j : Nat) (hj : j < n) : ∃ ad, A = some ad ∧ W.cell? (ad.add j) = some (.int k (rd xs (j : Int))) := by
  obtain ⟨ad, e, hc⟩ := Kd.at_int h (j : Int) (by omega) (by omega)
  exact ⟨ad, e, by simpa using hc⟩
/-- One byte more of a word. -/
def seal_Bytes.stp (w : Int) (k : Nat) (b : Int) : Int := Go.bits .or .u64 w (IntKind.u64.wrap (IntKind.u64.wrap b * 2 ^ (8 * k)))
def seal_Bytes.part (g : List Int) : Nat → Int
  | 0 => 0
  | k + 1 => seal_Bytes.stp (seal_Bytes.part g k) k (g.getD k 0)
/-- The word of the group of 8 bytes from place 8 j on. -/
def seal_Bytes.wrd (xs : List Int) (j : Nat) : Int := seal_Bytes.part (xs.drop (8 * j)) (min 8 (xs.length - 8 * j))
theorem seal_Bytes.upd (xs : List Int) (j k : Nat) : Value.int IntKind.u64 (Go.bits BinOp.or IntKind.u64 (seal_Bytes.part (xs.drop (8 * j)) k) (IntKind.u64.wrap (IntKind.u64.wrap (rd xs (8 * (j : Int) + (k : Int))) * 2 ^ (8 * k)))) = .int .u64 (seal_Bytes.part (xs.drop (8 * j)) (k + 1)) := by
  have e : rd xs (8 * (j : Int) + (k : Int)) = (xs.drop (8 * j)).getD k 0 := by
    unfold rd
    rw [show (8 * (j : Int) + (k : Int)).toNat = 8 * j + k by omega, List.getD_eq_getElem?_getD, List.getD_eq_getElem?_getD, List.getElem?_drop]
  rw [e]; rfl
set_option maxRecDepth 100000 in
set_option maxHeartbeats 4000000 in
theorem seal_Bytes.run (n : Nat) (hn : 1 ≤ n) (n₀ l : Nat) (A : Option Addr) (c : Nat) (xs : List Int) (w : World) (J : Nat → World → Prop) (hn₀ : n₀ ≤ w.heap.size) (hlen : xs.length ≤ 4611686018427387904) (hcap : xs.length ≤ c)
    (hI : ∀ W, Below n₀ w W → Kd.C (Kd.int .u8) W A xs.length xs)
    (hY : ∀ (j : Nat) (W1 : World), 8 * j < xs.length → J j W1 → Below n₀ w W1 → YieldAt Fence.wide (n - 1) Try.prog l #[Value.int .u64 (seal_Bytes.wrd xs j)] W1 fun e W' => e = .returned (.bool true) ∧ J (j + 1) W' ∧ Below n₀ w W')
    (h0 : J 0 w) :
    CallsIn Fence.wide n Try.prog 41 (#[.slice A xs.length c] ++ #[.func (.yield l) #[] #[]] ++ #[]) w fun e W' => (∃ v, e = .returned v) ∧ J ((xs.length + 7) / 8) W' ∧ Below n₀ w W' := by
  refine callsIn_of_wp Try.func41 rfl trivial ?_ rfl
  simp only [Try.ntmps41, List.size_toArray, List.length_cons, List.length_nil, Nat.reduceAdd, Nat.reduceSub, Array.replicate_succ, Array.replicate_zero, List.push_toArray, List.append_toArray, List.nil_append, List.cons_append]
  gi_wp2
  gi_loopw [4] (fun i wr => ∃ j : Nat, 8 * j ≤ xs.length + 7 ∧ i = .int .i64 ((8 * j : Nat) : Int) ∧ J j wr ∧ Below n₀ w wr)
    (fun i _ => xs.length + 8 - (intOf i).toNat)
  case atStart => exact ⟨0, by omega, rfl, h0, Below.refl _ _⟩
  case round =>
    obtain ⟨j, hj, rfl, hJs, hnx⟩ := hrel
    by_cases hlt : 8 * j < xs.length
    · obtain ⟨ad, rfl, hcx⟩ := seal_Bytes.cells (hI _ hnx) (8 * j) hlt
      by_cases h8 : 8 * j + 8 ≤ xs.length
      · gi_wp2
        have e8 : 8 * j + 8 - 8 * j = 8 := by omega
        rw [e8]
        gi_loopw [5, 23] (fun x y wr2 => ∃ k : Nat, k ≤ 8 ∧ x = .int .u64 (seal_Bytes.part (xs.drop (8 * j)) k) ∧ y = .int .i64 k ∧ J j wr2 ∧ Below n₀ w wr2)
          (fun _ y _ => 8 - (intOf y).toNat)
        case atStart => exact ⟨0, by omega, rfl, rfl, hJs, hnx⟩
        case round =>
          obtain ⟨k, hk, rfl, rfl, hJ2, hn2⟩ := hrel
          by_cases hkm : k < 8
          · obtain ⟨ad2, hq, hcy⟩ := seal_Bytes.cells (hI _ hn2) (8 * j + k) (by omega)
            obtain rfl := Option.some.inj hq
            have hcz : wr.cell? ((ad.add (8 * j)).add k) = some (.int .u8 (rd xs ((8 * j + k : Nat) : Int))) := by
              rw [← hcy, add_add]
            clear hcy
            gi_wp2
            refine ⟨⟨k + 1, by omega, ?_, by simp, hJ2, hn2⟩, by simp [intOf]; omega⟩
            exact seal_Bytes.upd xs j k
          · obtain rfl : k = 8 := by omega
            have hw : seal_Bytes.wrd xs j = seal_Bytes.part (xs.drop (8 * j)) 8 := by unfold seal_Bytes.wrd; rw [Nat.min_eq_left (by omega)]
            obtain ⟨fn, tmps, assign, body, hy, hR⟩ := hY j wr hlt hJ2 hn2
            rw [hw] at hy
            gi_wp2
            refine hR.mono ?_
            rintro e W3 ⟨rfl, hJ3, hk3⟩
            gi_wp2
            exact ⟨⟨j + 1, by omega, by rw [show ((8 * (j + 1) : Nat) : Int) = 8 * (j : Int) + 8 by omega], hJ3, hk3⟩, by simp [intOf]; omega⟩
      · have h9 : (xs.length : Int) < 8 * (j : Int) + 8 := by omega
        have h10 : ¬ (8 * (j : Int) + 8 < (xs.length : Int)) := by omega
        obtain ⟨m, hm⟩ : ∃ m, xs.length - 8 * j = m := ⟨_, rfl⟩
        gi_wp2
        try rw [hm]
        gi_loopw [5, 23] (fun x y wr2 => ∃ k : Nat, k ≤ m ∧ x = .int .u64 (seal_Bytes.part (xs.drop (8 * j)) k) ∧ y = .int .i64 k ∧ J j wr2 ∧ Below n₀ w wr2)
          (fun _ y _ => m - (intOf y).toNat)
        case atStart => exact ⟨0, by omega, rfl, rfl, hJs, hnx⟩
        case round =>
          obtain ⟨k, hk, rfl, rfl, hJ2, hn2⟩ := hrel
          by_cases hkm : k < m
          · obtain ⟨ad2, hq, hcy⟩ := seal_Bytes.cells (hI _ hn2) (8 * j + k) (by omega)
            obtain rfl := Option.some.inj hq
            have hcz : wr.cell? ((ad.add (8 * j)).add k) = some (.int .u8 (rd xs ((8 * j + k : Nat) : Int))) := by
              rw [← hcy, add_add]
            clear hcy
            gi_wp2
            refine ⟨⟨k + 1, by omega, ?_, by simp, hJ2, hn2⟩, by simp [intOf]; omega⟩
            exact seal_Bytes.upd xs j k
          · obtain rfl : k = m := by omega
            have hw : seal_Bytes.wrd xs j = seal_Bytes.part (xs.drop (8 * j)) k := by unfold seal_Bytes.wrd; rw [Nat.min_eq_right (by omega), hm]
            obtain ⟨fn, tmps, assign, body, hy, hR⟩ := hY j wr hlt hJ2 hn2
            rw [hw] at hy
            gi_wp2
            refine hR.mono ?_
            rintro e W3 ⟨rfl, hJ3, hk3⟩
            gi_wp2
            exact ⟨⟨j + 1, by omega, by rw [show ((8 * (j + 1) : Nat) : Int) = 8 * (j : Int) + 8 by omega], hJ3, hk3⟩, by simp [intOf]; omega⟩
    · have hjm : j = (xs.length + 7) / 8 := by omega
      gi_wp2
      go_end0
      exact ⟨⟨_, rfl⟩, by rw [← hjm]; exact hJs, hnx⟩
end
end Go.Proofs.Ytbkjdfemamehcaa.P03
