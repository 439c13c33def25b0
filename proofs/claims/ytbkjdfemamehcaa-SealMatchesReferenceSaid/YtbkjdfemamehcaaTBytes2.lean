/- The digest of bytes: the caller of the bound iterator, and Bytes itself. -/
import Derived.Test.YtbkjdfemamehcaaTBytes
namespace Go.Proofs.Ytbkjdfemamehcaa.P03
open Go.RowKit Go.Proofs.YtbkjdfemamehcaaW.PrintWords Go.Proofs.YtbkjdfemamehcaaW.PrintLast Go.Proofs.YtbkjdfemamehcaaW.PrintMore
attribute [local go_sem] max2_int min2_int max_two min_two max_three min_three max_four min_four
set_option linter.unusedVariables false
set_option linter.unusedSimpArgs false
section
attribute [local go_sem] Oper.semAt_some
theorem seal_Bytes.put_at {W W2 : World} {l : Nat} {o : Obj} (h : W2 = W.putObj l o) (hl : l < W.heap.size) : W2.heap[l]? = some o := by
  subst h
  exact World.putObj_heap_same hl
/-- The digest after j words. -/
def seal_Bytes.dig (xs : List Int) (d0 : Int) (j : Nat) : Int := ((List.range j).map (seal_Bytes.wrd xs)).foldl seal_stepv d0
theorem seal_Bytes.dig_succ (xs : List Int) (d0 : Int) (j : Nat) : seal_Bytes.dig xs d0 (j + 1) = seal_stepv (seal_Bytes.dig xs d0 j) (seal_Bytes.wrd xs j) := by
  unfold seal_Bytes.dig
  rw [List.range_succ, List.map_append, List.foldl_append]; rfl
/-- What holds between the rounds. -/
def seal_Bytes.J (w0 : World) (lp : Loop) (v : Int) (W : World) : Prop :=
  W.heap[w0.heap.size]? = some (.cells #[.int .u64 v] 59 (0, 0)) ∧ W.heap[w0.heap.size + 1]? = some (.deferred (some [])) ∧ W.heap[w0.heap.size + 2]? = some (.loop lp) ∧ Below w0.heap.size w0 W
theorem seal_Bytes.J_put {w0 W : World} {lp lp' : Loop} {v : Int} (h : seal_Bytes.J w0 lp v W) : seal_Bytes.J w0 lp' v (W.putObj (w0.heap.size + 2) (.loop lp')) := by
  obtain ⟨h1, h2, h3, h4⟩ := h
  have hh := fun k (hk : k ≠ w0.heap.size + 2) => World.putObj_heap_other (w := W) (o := .loop lp') hk
  refine ⟨(hh _ (by omega)).trans h1, (hh _ (by omega)).trans h2, World.putObj_heap_same (blk_lt h3), h4.grown (grownBy_putObj' W _ _) h4.size (fun k e => by cases e; omega)⟩
set_option maxRecDepth 100000 in
set_option maxHeartbeats 4000000 in
theorem seal_Bytes.all (n : Nat) (hn : 4 ≤ n) (A : Option Addr) (c : Nat) (xs : List Int) (d0 : Int) (w : World) (hlen : xs.length ≤ 4611686018427387904) (hcap : xs.length ≤ c) (hI : ∀ W, Below w.heap.size w W → Kd.C (Kd.int .u8) W A xs.length xs) :
    CallsIn Fence.wide n Try.prog 40 #[.int .u64 d0, .func (.func 41) #[.slice A xs.length c] #[]] w fun e W' => e = .returned (.int .u64 (seal_Bytes.dig xs d0 ((xs.length + 7) / 8))) ∧ Below w.heap.size w W' := by
  refine callsIn_of_wp_marks Try.func40 rfl trivial ?_ rfl
  simp only [Try.ntmps40, List.size_toArray, List.length_cons, List.length_nil, Nat.reduceAdd, Nat.reduceSub, Array.replicate_succ, Array.replicate_zero, List.push_toArray, List.append_toArray, List.nil_append, List.cons_append]
  gi_wp2
  obtain ⟨Ws, hWs⟩ : ∃ Ws, w.alloc (.cells #[.int .u64 d0] 59) = Ws := ⟨_, rfl⟩
  rw [hWs]
  have hsz : Ws.heap.size = w.heap.size + 1 := by rw [← hWs]; simp
  have hb0 : Below w.heap.size w Ws := by rw [← hWs]; exact (Below.refl _ w).alloc (Nat.le_refl _) _
  have hx0 : Ws.heap[w.heap.size]? = some (.cells #[.int .u64 d0] 59 (0, 0)) := by rw [← hWs]; exact blk_new w _
  refine range_stmt (by omega) (gf := 41) (fb := #[.slice A xs.length c]) (lb := #[]) rfl (enters_of Try.func41 (by kernel_rfl) rfl) (fun W2 => ∃ lp, seal_Bytes.J w lp (seal_Bytes.dig xs d0 ((xs.length + 7) / 8)) W2) ?_ ?_
  · intro fn W1 hW1
    rw [hsz] at hW1 ⊢
    generalize hlp : readyLoop fn _ _ _ _ _ _ = lp at hW1 ⊢
    have hw1 : Below Ws.heap.size Ws W1 := by rw [hW1]; exact below_alloc (below_alloc (Below.refl _ _) _) _
    have hJ1 : seal_Bytes.J w lp (seal_Bytes.dig xs d0 0) W1 := by
      refine ⟨blk_below hx0 hw1, ?_, ?_, below_step hb0 hw1⟩
      · rw [hW1]; refine blk_alloc ?_ _; have := blk_new Ws (.deferred (some [])); simpa [hsz] using this
      · rw [hW1]; have := blk_new (Ws.alloc (.deferred (some []))) (.loop lp); simpa [hsz] using this
    refine (seal_Bytes.run (n - 1) (by omega) w.heap.size (w.heap.size + 2) A c xs W1 (fun j W => seal_Bytes.J w lp (seal_Bytes.dig xs d0 j) W) (by have := hJ1.2.2.2.size; omega) hlen hcap (fun W hW => hI W (hJ1.2.2.2.trans hW)) ?_ hJ1).mono ?_
    · intro j Wr hj hJ hB
      subst hlp
      obtain ⟨x1, x2, x3, x4⟩ := hJ
      refine round_yield (R := fun W' => seal_Bytes.J w _ (seal_Bytes.dig xs d0 (j + 1)) W' ∧ Below w.heap.size W1 W') { tmps := #[.int .u64 d0, .func (.func 41) #[.slice A xs.length c] #[], .pointer (some ⟨w.heap.size, 0, none⟩), undef, .int .u64 0, .int .u64 (seal_Bytes.wrd xs j), .func (.func 41) #[.slice A xs.length c] #[], .int .u64 (seal_Bytes.wrd xs j), undef, undef, undef, undef], defers := [] } x3 rfl (fun K hK => ?_) (fun W2 hW2 => ?_)
      · gi_wp2
        exact hK
      · have hh : ∀ k, k ≠ w.heap.size + 2 → W2.heap[k]? = Wr.heap[k]? := fun k hk => by rw [hW2]; exact World.putObj_heap_other hk
        have hL2 := seal_Bytes.put_at hW2 (blk_lt x3)
        have y1 := (hh _ (by omega)).trans x1
        have y2 := (hh _ (by omega)).trans x2
        have hz2 : W2.heap.size = Wr.heap.size := by rw [hW2]; simp [World.putObj]
        have y4 : Below w.heap.size w W2 := by rw [hW2]; exact x4.grown (grownBy_putObj' Wr _ _) x4.size (fun k e => by cases e; omega)
        have y5 : Below w.heap.size W1 W2 := by rw [hW2]; exact hB.grown (grownBy_putObj' Wr _ _) x4.size (fun k e => by cases e; omega)
        have hc2 : W2.cell? ⟨w.heap.size, 0, none⟩ = some (.int .u64 (seal_Bytes.dig xs d0 j)) := (blk_cell y1 0).trans rfl
        have hf2 : W2.frozen? ⟨w.heap.size, 0, none⟩ = false := blk_frozen y1 0
        clear hW2 hh hW1
        have hd : 1 ≤ n - 1 - 1 := by omega
        have hmx : Try.prog.follows .mixedOrders = true := by kernel_rfl
        gi_wp2
        refine ⟨trivial, (CallsIn.inRound _ (callsIn_wide.2 (seal_digest_step.calls (seal_Bytes.dig xs d0 j) (seal_Bytes.wrd xs j) _ _ (seal_stepv_eq _ _)))).mono ?_⟩
        rintro e w' ⟨rfl, hdr⟩
        obtain ⟨⟨m, rfl⟩⟩ := hdr
        gi_wp2
        generalize hW3 : (W2.drewN m).setCell ⟨w.heap.size, 0, none⟩ (.int .u64 (seal_stepv (seal_Bytes.dig xs d0 j) (seal_Bytes.wrd xs j))) = W3
        have q1 : W3.heap[w.heap.size]? = some (.cells #[.int .u64 (seal_Bytes.dig xs d0 (j + 1))] 59 (0, 0)) := by
          rw [← hW3, seal_Bytes.dig_succ]
          exact blk_put (w := W2.drewN m) y1 0 _ rfl
        have qh : ∀ k, k ≠ w.heap.size → W3.heap[k]? = W2.heap[k]? := fun k hk => by rw [← hW3]; exact Below.heap_setCell (W2.drewN m) ⟨w.heap.size, 0, none⟩ _ k hk
        have q2 := (qh _ (by omega)).trans y2
        have q3 := (qh _ (by omega)).trans hL2
        have q4 : Below w.heap.size w W3 := by rw [← hW3]; exact (pw_below_drewN y4 m).setCell (p := ⟨w.heap.size, 0, none⟩) (Nat.le_refl _) _
        have q5 : Below w.heap.size W1 W3 := by rw [← hW3]; exact (pw_below_drewN y5 m).setCell (p := ⟨w.heap.size, 0, none⟩) (Nat.le_refl _) _
        exact ⟨q3, seal_Bytes.J_put ⟨q1, q2, q3, q4⟩, q5.grown (grownBy_putObj' W3 _ _) q4.size (fun k e => by cases e; omega)⟩
    · rintro e W2 ⟨hv, hJ, _⟩
      exact ⟨hv, ⟨_, hJ⟩, hJ.2.2.1, hJ.2.1⟩
  · rintro fn W2 ⟨lp, hJ⟩ hL hD
    rw [hsz] at hL hD ⊢
    clear hL hD
    have hJ3 := fun lp' => seal_Bytes.J_put (lp' := lp') hJ
    generalize hW3 : W2.putObj (w.heap.size + 1 + 1) _ = W3
    obtain ⟨z1, z2, _, z4⟩ : seal_Bytes.J w _ (seal_Bytes.dig xs d0 ((xs.length + 7) / 8)) W3 := hW3 ▸ hJ3 _
    have hc3 : W3.cell? ⟨w.heap.size, 0, none⟩ = some (.int .u64 (seal_Bytes.dig xs d0 ((xs.length + 7) / 8))) := (blk_cell z1 0).trans rfl
    gi_wp2
    refine ⟨by simp, .inl ⟨_, _, rfl, run_takeDeferred z2, ?_⟩⟩
    exact ⟨_, results_tmp rfl _ _ _, rfl, z4.grown (grownBy_putObj' W3 _ _) z4.size (fun k e => by cases e; omega)⟩
def seal_Bytes.f (l0 : List Int) : Option Int := if l0.length ≤ 4611686018427387904 then some (seal_stepv (seal_Bytes.dig l0 1818321765 ((l0.length + 7) / 8)) (l0.length : Int)) else none
set_option maxRecDepth 100000 in
set_option maxHeartbeats 2000000 in
theorem seal_Bytes.calls (A0 : Option Addr) (c0 : Nat) (l0 : List Int) (r : Int) (w : World) (hr0 : Kd.C (Kd.int .u8) w A0 l0.length l0) (hc0 : l0.length ≤ c0) (h : seal_Bytes.f l0 = some r) :
    Calls Try.prog 23 #[.slice A0 l0.length c0] w fun e w' => e = .returned (.int .u64 r) ∧ Below w.heap.size w w' := by
  unfold seal_Bytes.f at h
  by_cases hlen : l0.length ≤ 4611686018427387904
  rotate_left
  · rw [if_neg hlen] at h; cases h
  rw [if_pos hlen] at h
  obtain rfl := Option.some.inj h
  have A := Aside0.mk hr0
  have A2 := Aside0.mk hlen
  clear hr0 h
  go_enter Try.func23, Try.ntmps23
  have hall : ∀ W, Below w.heap.size w W → Calls Try.prog 40 #[.int .u64 1818321765, .func (.func 41) #[.slice A0 l0.length c0] #[]] W fun e W' =>
      e = .returned (.int .u64 (seal_Bytes.dig l0 1818321765 ((l0.length + 7) / 8))) ∧ Below w.heap.size w W' := fun W hW => by
    refine (callsIn_wide (n := 6)).1 ?_
    refine (seal_Bytes.all 6 (by omega) A0 c0 l0 1818321765 W A2.out hc0 (fun W2 hW2 => Kd.C_below A.out (below_step hW hW2))).mono ?_
    rintro e W' ⟨rfl, hb⟩
    exact ⟨rfl, below_step hW hb⟩
  have hx := hall w (Below.refl _ _)
  clear hall
  generalize seal_Bytes.dig l0 1818321765 ((l0.length + 7) / 8) = dg at hx ⊢
  go_wp2_with (first | (go_at_call 40; with_reducible refine Calls.mono hx ?_; rintro e w' ⟨rfl, hb⟩) | (go_at_call 32; with_reducible refine Calls.mono (seal_digest_step.calls _ _ _ _ (seal_stepv_eq _ _)) ?_; rintro e w' ⟨rfl, hdr⟩))
  all_goals try go_ret
  all_goals (obtain ⟨⟨m, rfl⟩⟩ := hdr; exact ⟨rfl, pw_below_drewN hb m⟩)
end
end Go.Proofs.Ytbkjdfemamehcaa.P03
