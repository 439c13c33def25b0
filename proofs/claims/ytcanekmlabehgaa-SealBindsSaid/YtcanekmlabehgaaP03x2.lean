-- PRINTED by print.py (a twelfth state) out of the translation. Not trusted: Lean checks it.
import Derived.Test.YtcanekmlabehgaaP03x0
import Derived.Test.YtcanekmlabehgaaP03x1
namespace Go.Proofs.Ytcanekmlabehgaa.P03
open Go.RowKit Go.Proofs.YtcanekmlabehgaaW.PrintWords Go.Proofs.YtcanekmlabehgaaW.PrintLast Go.Proofs.YtcanekmlabehgaaW.PrintMore
attribute [local go_sem] max2_int min2_int max_two min_two max_three min_three max_four min_four   -- for this text's walks alone
set_option linter.unusedVariables false
set_option linter.unusedSimpArgs false

/-! ### seal_Open: function 99 -/
section
def seal_Open.down : Nat → List Int → Int → List Int → Option (List Int)
  | 0, _, _, _ => none
  | k + 1, l, i, P => if l.length = 1 then some P else
      (seal_half.f (l.length : Int)).bind fun h => if 0 ≤ h then (if h ≤ (l.length : Int) then
        (if i < h then (seal_Open.down k (l.take h.toNat) i P).bind fun P1 => (seal_Root.f k (l.drop h.toNat)).bind fun x => if P1.length < 17592186044415 then some (P1 ++ [x]) else none
         else (seal_Open.down k (l.drop h.toNat) (wrap64 (i - h)) P).bind fun P1 => (seal_Root.f k (l.take h.toNat)).bind fun x => if P1.length < 17592186044415 then some (P1 ++ [x]) else none) else none) else none
def seal_Open.Inv (w0 W : World) (bd bp base : Nat) (P : List Int) : Prop :=
  Below w0.heap.size w0 W ∧ W.heap[bd]? = some (.cells #[.func (.func 116) #[] #[.pointer (some ⟨bd, 0, none⟩), .pointer (some ⟨bp, 0, none⟩)]] 137 (0, 0)) ∧ base ≤ W.heap.size ∧
    ∃ v, W.heap[bp]? = some (.cells #[v] 75 (0, 0)) ∧ Kd.R (Kd.int .u64) 72 W base (fun _ => True) v P
set_option maxRecDepth 100000 in
set_option maxHeartbeats 8000000 in
theorem seal_Open.down_calls (w0 : World) (bd bp base : Nat) (k : Nat) : ∀ (A0 : Option Addr) (c0 : Nat) (l0 : List Int) (a1 : Int) (P r : List Int) (W : World) (hw0 : w0.heap.size ≤ base) (hbp : bp < base) (hne : bd < base) (hbp0 : w0.heap.size ≤ bp) (hdp : bd ≠ bp)
    (hC : Kd.C (Kd.int .u64) w0 A0 l0.length l0) (hc : l0.length ≤ c0) (hI : seal_Open.Inv w0 W bd bp base P) (hf : seal_Open.down k l0 a1 P = some r),
    Calls Try.prog 116 #[.slice A0 l0.length c0, .int .i64 a1, .pointer (some ⟨bd, 0, none⟩), .pointer (some ⟨bp, 0, none⟩)] W fun e W' => (∃ u, e = .returned u) ∧ seal_Open.Inv w0 W' bd bp base r := by
  induction k with
  | zero => intro A0 c0 l0 a1 P r W _ _ _ _ _ _ _ _ hf; exact absurd hf (by simp [seal_Open.down])
  | succ k ih =>
  intro A0 c0 l0 a1 P r W hw0 hbp hne hbp0 hdp hC hc ⟨hB, hD, hbase, v, hP, hR⟩ hf
  rw [seal_Open.down] at hf
  have hlen := hC.2.1
  by_cases h1 : l0.length = 1
  · rw [if_pos h1] at hf
    obtain rfl := Option.some.inj hf
    have h1b : ((l0.length : Int) == 1) = true := by simp [h1]
    go_enter Try.func116, Try.ntmps116
    go_wp2
    refine bodyPost_ret (results_none rfl _ _ _) rfl ?_
    exact ⟨⟨_, rfl⟩, hB, hD, hbase, v, hP, hR⟩
  rw [if_neg h1] at hf
  have h1b : ((l0.length : Int) == 1) = false := by simp; omega
  obtain ⟨h, e0, h2⟩ := Option.bind_eq_some_iff.mp hf
  by_cases c1 : 0 ≤ h
  · rw [if_pos c1] at h2
    by_cases c2 : h ≤ (l0.length : Int)
    · rw [if_pos c2] at h2
      obtain ⟨i016, hi016, _, hsz16, _⟩ := info_parts info72
      obtain ⟨hcutT, hAT, hcT⟩ := print_take_of (P := Try.prog) (Value.int .u64) 0 75 72 .i64 Try.underlying75 hi016 hsz16 A0 c0 l0 h c1 c2 hc
      have hCT := Kd.C_of_reads (h1 := fun _ => rfl) (hAT _ (Kd.reads_of_C hC))
      obtain ⟨A18, hcutD, hAD, hcD⟩ := print_drop_of (P := Try.prog) (Value.int .u64) 0 75 72 .i64 Try.underlying75 hi016 hsz16 A0 c0 l0 h c1 c2 hc
      have hCD := Kd.C_of_reads (h1 := fun _ => rfl) (hAD _ (Kd.reads_of_C hC))
      clear hAT hAD
      by_cases c3 : a1 < h
      · rw [if_pos c3] at h2
        obtain ⟨P1, e1, h3⟩ := Option.bind_eq_some_iff.mp h2
        obtain ⟨x, e2, h4⟩ := Option.bind_eq_some_iff.mp h3
        by_cases c4 : P1.length < 17592186044415
        · rw [if_pos c4] at h4
          obtain rfl := Option.some.inj h4
          clear h2 h3 h4
          have c3b : decide (a1 < h) = true := decide_eq_true c3
          go_enter Try.func116, Try.ntmps116
          go_wp2_with (first | (go_at_call 98; refine (seal_half.calls _ _ _ e0).mono ?_; rintro e w' ⟨rfl, ⟨nd, rfl⟩⟩))
          have hBd := below_drew1 (pw_below_drewN hB nd)
          have hD2 := blk_drew (blk_drewN hD nd)
          have hPd := blk_drew (blk_drewN hP nd)
          have hRd := Kd.R_drew (Kd.R_drewN hR nd)
          refine start_ (n := 6) (S := fun w' => w'.cell? ⟨bd, 0, none⟩ = some (.func (.func 116) #[] #[.pointer (some ⟨bd, 0, none⟩), .pointer (some ⟨bp, 0, none⟩)])) (ds := []) #[false, false, false, false, false, false] (by kernel_rfl) rfl rfl (blk_cell hD2 0) (fun hHeld => ?_)
          refine pure_ (i := 1) (N := some 17) (v := ?_) (a' := ?_) #[false, true, false, false, false, false] rfl rfl (by kernel_rfl) (fun _ _ _ h => h) (Or.inl ⟨by rfl, ?_⟩) ?_ ?_
          rotate_left
          · intro w'
            go_simp
            with_reducible rfl
          rotate_left
          · simp only [Act.put, List.setIfInBounds_toArray, List.set_cons_zero, List.set_cons_succ, i64_w, i32_w]
            rfl
          refine pure_ (i := 2) (N := some 18) (v := ?_) (a' := ?_) #[false, true, true, false, false, false] rfl rfl (by kernel_rfl) (fun _ _ _ h => h) (Or.inl ⟨by rfl, ?_⟩) ?_ ?_
          rotate_left
          · intro w'
            go_simp
            with_reducible rfl
          rotate_left
          · simp only [Act.put, List.setIfInBounds_toArray, List.set_cons_zero, List.set_cons_succ, i64_w, i32_w]
            rfl
          refine pure_ (i := 3) (N := some 19) (v := ?_) (a' := ?_) #[false, true, true, true, false, false] rfl rfl (by kernel_rfl) (fun _ _ _ h => h) (Or.inl ⟨by rfl, ?_⟩) ?_ ?_
          rotate_left
          · intro w'
            go_simp
            with_reducible rfl
          rotate_left
          · simp only [Act.put, List.setIfInBounds_toArray, List.set_cons_zero, List.set_cons_succ, i64_w, i32_w]
            rfl
          refine pure_ (i := 4) (N := some 20) (v := ?_) (a' := ?_) #[false, true, true, true, true, false] rfl rfl (by kernel_rfl) (fun _ _ _ h => h) (Or.inl ⟨by rfl, ?_⟩) ?_ ?_
          rotate_left
          · intro w'
            go_simp
            with_reducible rfl
          rotate_left
          · simp only [Act.put, List.setIfInBounds_toArray, List.set_cons_zero, List.set_cons_succ, i64_w, i32_w]
            rfl
          refine take_ (i := 0) (N := some 16) (v := ?_) (a' := ?_) #[true, true, true, true, true, false] rfl rfl (by kernel_rfl) (fun _ _ _ h => h) (Or.inl ⟨by rfl, ?_⟩) hHeld ?_ ?_
          rotate_left
          · intro w' s0
            go_simp
            with_reducible rfl
          rotate_left
          · simp only [Act.put, List.setIfInBounds_toArray, List.set_cons_zero, List.set_cons_succ, i64_w, i32_w]
            rfl
          refine one_ (i := 5) (N := some 21) #[true, true, true, true, true, true] rfl rfl (by kernel_rfl) (by decide) (fun K hK => ?_)
          refine call_ 116 #[.slice A0 (l0.take h.toNat).length c0, .int .i64 a1, .pointer (some ⟨bd, 0, none⟩), .pointer (some ⟨bp, 0, none⟩)] (by rfl) rfl ?hrun ?_
          case hrun =>
            have hE := fun (xs_ : Array Value) (W_ : World) => enters_ (P := Try.prog) Try.func116 (by kernel_rfl) rfl xs_ W_
            rw [show (l0.take h.toNat).length = h.toNat from (by rw [List.length_take]; omega)]
            unfold execOp
            simp [resolve, Deferred.ofValue, invoke, Act.eval, hE]
          refine (ih A0 c0 (l0.take h.toNat) a1 P P1 _ hw0 hbp hne hbp0 hdp hCT hcT ⟨hBd, hD2, hbase, v, hPd, hRd⟩ e1).mono ?_
          rintro e W1 ⟨⟨u, rfl⟩, hB1, hD1, hbase1, v1, hP1, hR1⟩
          refine ⟨_, rfl, ?_⟩
          refine hK.out _ _ (blk_cell hD1 0) (fun hHeld => ?_)
          clear hK K hHeld
          refine norm_ (a' := ?_) ?_ ?_
          rotate_left
          · show Act.put _ (some 21) _ = _
            simp only [Act.put, List.setIfInBounds_toArray, List.set_cons_zero, List.set_cons_succ, i64_w, i32_w]
            rfl
          refine done_ (by kernel_rfl) ?_
          try go_wp2
          have hP1c := blk_cell hP1 0
          refine start_ (n := 8) (S := fun w' => w'.cell? ⟨bp, 0, none⟩ = some v1) (ds := [7]) #[false, false, false, false, false, false, false, false] (by kernel_rfl) rfl rfl (blk_cell hP1 0) (fun hHeld => ?_)
          refine pure_ (i := 1) (N := some 23) (v := ?_) (a' := ?_) #[false, true, false, false, false, false, false, false] rfl rfl (by kernel_rfl) (fun _ _ _ h => h) (Or.inl ⟨by rfl, ?_⟩) ?_ ?_
          rotate_left
          · intro w'
            go_simp
            with_reducible rfl
          rotate_left
          · simp only [Act.put, List.setIfInBounds_toArray, List.set_cons_zero, List.set_cons_succ, i64_w, i32_w]
            rfl
          refine pure_ (i := 2) (N := some 24) (v := ?_) (a' := ?_) #[false, true, true, false, false, false, false, false] rfl rfl (by kernel_rfl) (fun _ _ _ h => h) (Or.inl ⟨by rfl, ?_⟩) ?_ ?_
          rotate_left
          · intro w'
            go_simp
            with_reducible rfl
          rotate_left
          · simp only [Act.put, List.setIfInBounds_toArray, List.set_cons_zero, List.set_cons_succ, i64_w, i32_w]
            rfl
          refine pure_ (i := 3) (N := some 25) (v := ?_) (a' := ?_) #[false, true, true, true, false, false, false, false] rfl rfl (by kernel_rfl) (fun _ _ _ h => h) (Or.inl ⟨by rfl, ?_⟩) ?_ ?_
          rotate_left
          · intro w'
            go_simp
            with_reducible rfl
          rotate_left
          · simp only [Act.put, List.setIfInBounds_toArray, List.set_cons_zero, List.set_cons_succ, i64_w, i32_w]
            rfl
          refine take_ (i := 0) (N := some 22) (v := ?_) (a' := ?_) #[true, true, true, true, false, false, false, false] rfl rfl (by kernel_rfl) (fun _ _ _ h => h) (Or.inl ⟨by rfl, ?_⟩) hHeld ?_ ?_
          rotate_left
          · intro w' s0
            go_simp
            with_reducible rfl
          rotate_left
          · simp only [Act.put, List.setIfInBounds_toArray, List.set_cons_zero, List.set_cons_succ, i64_w, i32_w]
            rfl
          refine one_ (i := 4) (N := some 26) #[true, true, true, true, true, false, false, false] rfl rfl (by kernel_rfl) (by decide) (fun K hK => ?_)
          refine goes_ Try.func59 (by kernel_rfl) rfl #[.slice A18 (l0.drop h.toNat).length (c0 - h.toNat)] (by rfl) rfl rfl (by (try simp only [List.map_toArray, List.map_cons, List.map_nil]); first | done | (rw [show (l0.drop h.toNat).length = (l0.length - h.toNat) from List.length_drop] <;> rfl) | rfl) ?_
          refine (seal_Root.calls k A18 (c0 - h.toNat) (l0.drop h.toNat) x _ (Kd.C_below hCD (below_drew1 hB1)) hcD e2).mono ?_
          rintro e W2 ⟨rfl, hb2⟩
          have hb2' : Below W1.heap.size W1 W2 := (below_drew1 (Below.refl _ W1)).trans hb2
          have hD2' := blk_below hD1 hb2'
          have hP2 := blk_below hP1 hb2'
          have hR2 := Kd.R_below hR1 hb2'
          have hB2 := below_step hB1 hb2'
          have hbase2 : base ≤ W2.heap.size := Nat.le_trans hbase1 hb2'.size
          refine ⟨_, rfl, ?_⟩
          refine hK.out _ _ (blk_cell hP2 0) (fun hHeld => ?_)
          clear hK K hHeld
          refine norm_ (a' := ?_) ?_ ?_
          rotate_left
          · show Act.put _ (some 26) _ = _
            simp only [Act.put, List.setIfInBounds_toArray, List.set_cons_zero, List.set_cons_succ, i64_w, i32_w]
            rfl
          refine one_ (i := 5) (N := some 27) #[true, true, true, true, true, true, false, false] rfl rfl (by kernel_rfl) (by decide) (fun K hK => ?_)
          refine value_ (w1 := ?_) (v := ?_) (by rfl) rfl ?_ ?_
          rotate_left 2
          · go_simp
            constructor
            · rfl
            · rfl
          refine hK.out _ _ (blk_cell (blk_alloc hP2 _) 0) (fun hHeld => ?_)
          clear hK K hHeld
          refine norm_ (a' := ?_) ?_ ?_
          rotate_left
          · show Act.put _ (some 27) _ = _
            simp only [Act.put, List.setIfInBounds_toArray, List.set_cons_zero, List.set_cons_succ, i64_w, i32_w]
            rfl
          refine one_ (i := 6) (N := some 28) #[true, true, true, true, true, true, true, false] rfl rfl (by kernel_rfl) (by decide) (fun K hK => ?_)
          refine Kd.R_append_step (Kd.int .u64) (w0 := W2) base (by rfl) (.tmp 22) (.tmp 27) 75 72 (.int .u64 0) 8 rfl Try.underlying75 info72 rfl (by decide) (by omega) v1 P1 x [.int .u64 x] (fun _ => True) (fun _ => False) rfl rfl ?aP (fun _ hk => hk.elim) ?aF ?aO ?aB ?aS ?aL ?_
          (case aP => exact rfl)
          (case aB => exact Below.refl _ _)
          (case aF => exact (fun _ _ => trivial))
          (case aO => exact hR2)
          (case aS => exact hbase2)
          (case aL => omega)
          intro v3 W3 ho hb hg hat
          have hD3 : W3.heap[bd]? = _ := (hb.block bd (by omega)).trans hD2'
          have hP3 : W3.heap[bp]? = _ := (hb.block bp hbp).trans hP2
          refine hK.out _ _ (blk_cell hP3 0) (fun hHeld => ?_)
          clear hK K hHeld
          refine norm_ (a' := ?_) ?_ ?_
          rotate_left
          · show Act.put _ (some 28) _ = _
            simp only [Act.put, List.setIfInBounds_toArray, List.set_cons_zero, List.set_cons_succ, i64_w, i32_w]
            rfl
          refine last_ (i := 7) (N := none) #[true, true, true, true, true, true, true, true] rfl rfl (by kernel_rfl) (by decide) (fun K hK => ?_)
          obtain ⟨A9, c9, e9⟩ := Kd.R_slice ho
          subst e9
          rw [show (P1 ++ [x]).length = P1.length + 1 by simp] at ho
          have hfz := blk_frozen hP3 0
          have hcz := blk_cell hP3 0
          refine skip_ (w1 := ?_) (by rfl) rfl ?_ ?_
          rotate_left
          · go_simp
            rfl
          refine hK.out _ _ ?_
          clear hK K
          refine done_ (by kernel_rfl) ?_
          try go_wp2
          first | refine bodyPost_ret (results_none rfl _ _ _) rfl ?_ | go_end0
          refine ⟨⟨_, rfl⟩, ?_, blk_far hD3 ?_ _, ?_, _, blk_set hP3 0 _, ?_⟩
          · exact (hB2.trans (hb.mono hw0)).setCell (p := ⟨bp, 0, none⟩) hbp0 _
          · exact hdp
          · have := hb.size; simp; omega
          · exact Kd.R_set ho hP3 (by decide) 0 _
        · rw [if_neg c4] at h4; exact absurd h4 (by simp)
      · rw [if_neg c3] at h2
        obtain ⟨P1, e1, h3⟩ := Option.bind_eq_some_iff.mp h2
        obtain ⟨x, e2, h4⟩ := Option.bind_eq_some_iff.mp h3
        by_cases c4 : P1.length < 17592186044415
        · rw [if_pos c4] at h4
          obtain rfl := Option.some.inj h4
          clear h2 h3 h4
          have c3b : decide (a1 < h) = false := decide_eq_false c3
          go_enter Try.func116, Try.ntmps116
          go_wp2_with (first | (go_at_call 98; refine (seal_half.calls _ _ _ e0).mono ?_; rintro e w' ⟨rfl, ⟨nd, rfl⟩⟩))
          have hBd := below_drew1 (pw_below_drewN hB nd)
          have hD2 := blk_drew (blk_drewN hD nd)
          have hPd := blk_drew (blk_drewN hP nd)
          have hRd := Kd.R_drew (Kd.R_drewN hR nd)
          refine start_ (n := 8) (S := fun w' => w'.cell? ⟨bd, 0, none⟩ = some (.func (.func 116) #[] #[.pointer (some ⟨bd, 0, none⟩), .pointer (some ⟨bp, 0, none⟩)])) (ds := []) #[false, false, false, false, false, false, false, false] (by kernel_rfl) rfl rfl (blk_cell hD2 0) (fun hHeld => ?_)
          refine pure_ (i := 1) (N := some 30) (v := ?_) (a' := ?_) #[false, true, false, false, false, false, false, false] rfl rfl (by kernel_rfl) (fun _ _ _ h => h) (Or.inl ⟨by rfl, ?_⟩) ?_ ?_
          rotate_left
          · intro w'
            go_simp
            with_reducible rfl
          rotate_left
          · simp only [Act.put, List.setIfInBounds_toArray, List.set_cons_zero, List.set_cons_succ, i64_w, i32_w]
            rfl
          refine pure_ (i := 2) (N := some 31) (v := ?_) (a' := ?_) #[false, true, true, false, false, false, false, false] rfl rfl (by kernel_rfl) (fun _ _ _ h => h) (Or.inl ⟨by rfl, ?_⟩) ?_ ?_
          rotate_left
          · intro w'
            go_simp
            with_reducible rfl
          rotate_left
          · simp only [Act.put, List.setIfInBounds_toArray, List.set_cons_zero, List.set_cons_succ, i64_w, i32_w]
            rfl
          refine pure_ (i := 3) (N := some 32) (v := ?_) (a' := ?_) #[false, true, true, true, false, false, false, false] rfl rfl (by kernel_rfl) (fun _ _ _ h => h) (Or.inl ⟨by rfl, ?_⟩) ?_ ?_
          rotate_left
          · intro w'
            go_simp
            with_reducible rfl
          rotate_left
          · simp only [Act.put, List.setIfInBounds_toArray, List.set_cons_zero, List.set_cons_succ, i64_w, i32_w]
            rfl
          refine pure_ (i := 4) (N := some 33) (v := ?_) (a' := ?_) #[false, true, true, true, true, false, false, false] rfl rfl (by kernel_rfl) (fun _ _ _ h => h) (Or.inl ⟨by rfl, ?_⟩) ?_ ?_
          rotate_left
          · intro w'
            go_simp
            with_reducible rfl
          rotate_left
          · simp only [Act.put, List.setIfInBounds_toArray, List.set_cons_zero, List.set_cons_succ, i64_w, i32_w]
            rfl
          refine pure_ (i := 5) (N := some 34) (v := ?_) (a' := ?_) #[false, true, true, true, true, true, false, false] rfl rfl (by kernel_rfl) (fun _ _ _ h => h) (Or.inl ⟨by rfl, ?_⟩) ?_ ?_
          rotate_left
          · intro w'
            go_simp
            with_reducible rfl
          rotate_left
          · simp only [Act.put, List.setIfInBounds_toArray, List.set_cons_zero, List.set_cons_succ, i64_w, i32_w]
            rfl
          refine pure_ (i := 6) (N := some 35) (v := ?_) (a' := ?_) #[false, true, true, true, true, true, true, false] rfl rfl (by kernel_rfl) (fun _ _ _ h => h) (Or.inl ⟨by rfl, ?_⟩) ?_ ?_
          rotate_left
          · intro w'
            go_simp
            with_reducible rfl
          rotate_left
          · simp only [Act.put, List.setIfInBounds_toArray, List.set_cons_zero, List.set_cons_succ, i64_w, i32_w]
            rfl
          refine take_ (i := 0) (N := some 29) (v := ?_) (a' := ?_) #[true, true, true, true, true, true, true, false] rfl rfl (by kernel_rfl) (fun _ _ _ h => h) (Or.inl ⟨by rfl, ?_⟩) hHeld ?_ ?_
          rotate_left
          · intro w' s0
            go_simp
            with_reducible rfl
          rotate_left
          · simp only [Act.put, List.setIfInBounds_toArray, List.set_cons_zero, List.set_cons_succ, i64_w, i32_w]
            rfl
          refine one_ (i := 7) (N := some 36) #[true, true, true, true, true, true, true, true] rfl rfl (by kernel_rfl) (by decide) (fun K hK => ?_)
          refine call_ 116 #[.slice A18 (l0.drop h.toNat).length (c0 - h.toNat), .int .i64 (wrap64 (a1 - h)), .pointer (some ⟨bd, 0, none⟩), .pointer (some ⟨bp, 0, none⟩)] (by rfl) rfl ?hrun ?_
          case hrun =>
            have hE := fun (xs_ : Array Value) (W_ : World) => enters_ (P := Try.prog) Try.func116 (by kernel_rfl) rfl xs_ W_
            rw [show (l0.drop h.toNat).length = (l0.length - h.toNat) from List.length_drop]
            unfold execOp
            simp [resolve, Deferred.ofValue, invoke, Act.eval, hE]
          refine (ih A18 (c0 - h.toNat) (l0.drop h.toNat) (wrap64 (a1 - h)) P P1 _ hw0 hbp hne hbp0 hdp hCD hcD ⟨hBd, hD2, hbase, v, hPd, hRd⟩ e1).mono ?_
          rintro e W1 ⟨⟨u, rfl⟩, hB1, hD1, hbase1, v1, hP1, hR1⟩
          refine ⟨_, rfl, ?_⟩
          refine hK.out _ _ (blk_cell hD1 0) (fun hHeld => ?_)
          clear hK K hHeld
          refine norm_ (a' := ?_) ?_ ?_
          rotate_left
          · show Act.put _ (some 36) _ = _
            simp only [Act.put, List.setIfInBounds_toArray, List.set_cons_zero, List.set_cons_succ, i64_w, i32_w]
            rfl
          refine done_ (by kernel_rfl) ?_
          try go_wp2
          have hP1c := blk_cell hP1 0
          refine start_ (n := 8) (S := fun w' => w'.cell? ⟨bp, 0, none⟩ = some v1) (ds := [7]) #[false, false, false, false, false, false, false, false] (by kernel_rfl) rfl rfl (blk_cell hP1 0) (fun hHeld => ?_)
          refine pure_ (i := 1) (N := some 38) (v := ?_) (a' := ?_) #[false, true, false, false, false, false, false, false] rfl rfl (by kernel_rfl) (fun _ _ _ h => h) (Or.inl ⟨by rfl, ?_⟩) ?_ ?_
          rotate_left
          · intro w'
            go_simp
            with_reducible rfl
          rotate_left
          · simp only [Act.put, List.setIfInBounds_toArray, List.set_cons_zero, List.set_cons_succ, i64_w, i32_w]
            rfl
          refine pure_ (i := 2) (N := some 39) (v := ?_) (a' := ?_) #[false, true, true, false, false, false, false, false] rfl rfl (by kernel_rfl) (fun _ _ _ h => h) (Or.inl ⟨by rfl, ?_⟩) ?_ ?_
          rotate_left
          · intro w'
            go_simp
            with_reducible rfl
          rotate_left
          · simp only [Act.put, List.setIfInBounds_toArray, List.set_cons_zero, List.set_cons_succ, i64_w, i32_w]
            rfl
          refine pure_ (i := 3) (N := some 40) (v := ?_) (a' := ?_) #[false, true, true, true, false, false, false, false] rfl rfl (by kernel_rfl) (fun _ _ _ h => h) (Or.inl ⟨by rfl, ?_⟩) ?_ ?_
          rotate_left
          · intro w'
            go_simp
            with_reducible rfl
          rotate_left
          · simp only [Act.put, List.setIfInBounds_toArray, List.set_cons_zero, List.set_cons_succ, i64_w, i32_w]
            rfl
          refine take_ (i := 0) (N := some 37) (v := ?_) (a' := ?_) #[true, true, true, true, false, false, false, false] rfl rfl (by kernel_rfl) (fun _ _ _ h => h) (Or.inl ⟨by rfl, ?_⟩) hHeld ?_ ?_
          rotate_left
          · intro w' s0
            go_simp
            with_reducible rfl
          rotate_left
          · simp only [Act.put, List.setIfInBounds_toArray, List.set_cons_zero, List.set_cons_succ, i64_w, i32_w]
            rfl
          refine one_ (i := 4) (N := some 41) #[true, true, true, true, true, false, false, false] rfl rfl (by kernel_rfl) (by decide) (fun K hK => ?_)
          refine goes_ Try.func59 (by kernel_rfl) rfl #[.slice A0 (l0.take h.toNat).length c0] (by rfl) rfl rfl (by (try simp only [List.map_toArray, List.map_cons, List.map_nil]); first | done | (rw [show (l0.take h.toNat).length = h.toNat from (by rw [List.length_take]; omega)] <;> rfl) | rfl) ?_
          refine (seal_Root.calls k A0 c0 (l0.take h.toNat) x _ (Kd.C_below hCT (below_drew1 hB1)) hcT e2).mono ?_
          rintro e W2 ⟨rfl, hb2⟩
          have hb2' : Below W1.heap.size W1 W2 := (below_drew1 (Below.refl _ W1)).trans hb2
          have hD2' := blk_below hD1 hb2'
          have hP2 := blk_below hP1 hb2'
          have hR2 := Kd.R_below hR1 hb2'
          have hB2 := below_step hB1 hb2'
          have hbase2 : base ≤ W2.heap.size := Nat.le_trans hbase1 hb2'.size
          refine ⟨_, rfl, ?_⟩
          refine hK.out _ _ (blk_cell hP2 0) (fun hHeld => ?_)
          clear hK K hHeld
          refine norm_ (a' := ?_) ?_ ?_
          rotate_left
          · show Act.put _ (some 41) _ = _
            simp only [Act.put, List.setIfInBounds_toArray, List.set_cons_zero, List.set_cons_succ, i64_w, i32_w]
            rfl
          refine one_ (i := 5) (N := some 42) #[true, true, true, true, true, true, false, false] rfl rfl (by kernel_rfl) (by decide) (fun K hK => ?_)
          refine value_ (w1 := ?_) (v := ?_) (by rfl) rfl ?_ ?_
          rotate_left 2
          · go_simp
            constructor
            · rfl
            · rfl
          refine hK.out _ _ (blk_cell (blk_alloc hP2 _) 0) (fun hHeld => ?_)
          clear hK K hHeld
          refine norm_ (a' := ?_) ?_ ?_
          rotate_left
          · show Act.put _ (some 42) _ = _
            simp only [Act.put, List.setIfInBounds_toArray, List.set_cons_zero, List.set_cons_succ, i64_w, i32_w]
            rfl
          refine one_ (i := 6) (N := some 43) #[true, true, true, true, true, true, true, false] rfl rfl (by kernel_rfl) (by decide) (fun K hK => ?_)
          refine Kd.R_append_step (Kd.int .u64) (w0 := W2) base (by rfl) (.tmp 37) (.tmp 42) 75 72 (.int .u64 0) 8 rfl Try.underlying75 info72 rfl (by decide) (by omega) v1 P1 x [.int .u64 x] (fun _ => True) (fun _ => False) rfl rfl ?aP (fun _ hk => hk.elim) ?aF ?aO ?aB ?aS ?aL ?_
          (case aP => exact rfl)
          (case aB => exact Below.refl _ _)
          (case aF => exact (fun _ _ => trivial))
          (case aO => exact hR2)
          (case aS => exact hbase2)
          (case aL => omega)
          intro v3 W3 ho hb hg hat
          have hD3 : W3.heap[bd]? = _ := (hb.block bd (by omega)).trans hD2'
          have hP3 : W3.heap[bp]? = _ := (hb.block bp hbp).trans hP2
          refine hK.out _ _ (blk_cell hP3 0) (fun hHeld => ?_)
          clear hK K hHeld
          refine norm_ (a' := ?_) ?_ ?_
          rotate_left
          · show Act.put _ (some 43) _ = _
            simp only [Act.put, List.setIfInBounds_toArray, List.set_cons_zero, List.set_cons_succ, i64_w, i32_w]
            rfl
          refine last_ (i := 7) (N := none) #[true, true, true, true, true, true, true, true] rfl rfl (by kernel_rfl) (by decide) (fun K hK => ?_)
          obtain ⟨A9, c9, e9⟩ := Kd.R_slice ho
          subst e9
          rw [show (P1 ++ [x]).length = P1.length + 1 by simp] at ho
          have hfz := blk_frozen hP3 0
          have hcz := blk_cell hP3 0
          refine skip_ (w1 := ?_) (by rfl) rfl ?_ ?_
          rotate_left
          · go_simp
            rfl
          refine hK.out _ _ ?_
          clear hK K
          refine done_ (by kernel_rfl) ?_
          try go_wp2
          first | refine bodyPost_ret (results_none rfl _ _ _) rfl ?_ | go_end0
          refine ⟨⟨_, rfl⟩, ?_, blk_far hD3 ?_ _, ?_, _, blk_set hP3 0 _, ?_⟩
          · exact (hB2.trans (hb.mono hw0)).setCell (p := ⟨bp, 0, none⟩) hbp0 _
          · exact hdp
          · have := hb.size; simp; omega
          · exact Kd.R_set ho hP3 (by decide) 0 _
        · rw [if_neg c4] at h4; exact absurd h4 (by simp)
    · rw [if_neg c2] at h2; exact absurd h2 (by simp)
  · rw [if_neg c1] at h2; exact absurd h2 (by simp)
theorem seal_Open.down_mono : ∀ (k : Nat) (l : List Int) (i : Int) (P : List Int), LeO (seal_Open.down k l i P) (seal_Open.down (k + 1) l i P)
  | 0, _, _, _ => fun r h => by simp [seal_Open.down] at h
  | k + 1, l, i, P => by
    rw [seal_Open.down, seal_Open.down]
    repeat' first
      | (with_reducible exact seal_Open.down_mono k _ _ _)
      | (with_reducible exact seal_Root.mono _ _)
      | (with_reducible exact LeO.refl _)
      | (with_reducible exact LeO.none _)
      | (with_reducible refine LeO.ite ?_ ?_)
      | (with_reducible refine LeO.bind ?_ (fun _ => ?_))
def seal_Open.f (k : Nat) (l0 : List Int) (a1 : Int) : Option (List Int × Int) := if a1 < 0 then some ([], 1) else if a1 ≥ (l0.length : Int) then some ([], 1) else (seal_Open.down k l0 a1 []).bind fun r => some (r, 0)
theorem seal_Open.mono : ∀ a0 a1 k, LeO (seal_Open.f k a0 a1) (seal_Open.f (k + 1) a0 a1) := by
  intro a0 a1 k
  unfold seal_Open.f
  repeat' first
    | (with_reducible exact seal_Open.down_mono k _ _ _)
    | (with_reducible exact LeO.refl _)
    | (with_reducible refine LeO.ite ?_ ?_)
    | (with_reducible refine LeO.bind ?_ (fun _ => ?_))
set_option maxRecDepth 100000 in
set_option maxHeartbeats 8000000 in
theorem seal_Open.calls (k : Nat) (A0 : Option Addr) (c0 : Nat) (l0 : List Int) (a1 : Int) (r1 : List Int) (r2 : Int) (w : World) (hr0 : Kd.C (Kd.int .u64) w A0 l0.length l0) (hc0 : l0.length ≤ c0) (h : seal_Open.f k l0 a1 = some (r1, r2)) :
    Calls Try.prog 99 #[.slice A0 l0.length c0, .int .i64 a1] w fun e w' => ∃ v0_ : Value, e = .returned (.tuple #[v0_, .int .i64 r2]) ∧ Kd.R (Kd.int .u64) 72 w' w.heap.size (fun _ => True) v0_ r1 ∧ Below w.heap.size w w' := by
  unfold seal_Open.f at h
  have hlen := hr0.2.1
  have hnil : ∀ (W : World) (B : Nat), Kd.R (Kd.int .u64) 72 W B (fun _ => True) (.slice none 0 0) [] := fun W B => Kd.R_nil _ _ _ _ _
  by_cases c1 : a1 < 0
  · rw [if_pos c1] at h
    obtain ⟨rfl, rfl⟩ := Prod.mk.inj (Option.some.inj h)
    have c1b : decide (a1 < 0) = true := decide_eq_true c1
    go_enter Try.func99, Try.ntmps99
    go_wp2
    go_ret2
    exact ⟨_, rfl, hnil _ _, by first | exact Below.refl _ _ | exact pw_below_drewN (Below.refl _ _) _⟩
  · rw [if_neg c1] at h
    have c1b : decide (a1 < 0) = false := decide_eq_false c1
    by_cases c2 : a1 ≥ (l0.length : Int)
    · rw [if_pos c2] at h
      obtain ⟨rfl, rfl⟩ := Prod.mk.inj (Option.some.inj h)
      have c2b : decide ((l0.length : Int) ≤ a1) = true := decide_eq_true c2
      go_enter Try.func99, Try.ntmps99
      go_wp2
      go_ret2
      exact ⟨_, rfl, hnil _ _, by first | exact Below.refl _ _ | exact pw_below_drewN (Below.refl _ _) _⟩
    · rw [if_neg c2] at h
      have c2b : decide ((l0.length : Int) ≤ a1) = false := decide_eq_false c2
      obtain ⟨r, e1, h2⟩ := Option.bind_eq_some_iff.mp h
      obtain ⟨rfl, rfl⟩ := Prod.mk.inj (Option.some.inj h2)
      go_enter Try.func99, Try.ntmps99
      go_wp2_with (first | (go_at_call 116; go_loud (refine (seal_Open.down_calls w (w.heap.size + 1) w.heap.size (w.heap.size + 2) k A0 c0 l0 a1 [] r _ (by omega) (by omega) (by omega) (Nat.le_refl _) (by omega) hr0 hc0 ⟨?i1, ?i2, ?i3, .slice none 0 0, ?i4, hnil _ _⟩ e1).mono ?_; (case i1 => exact ((Below.refl _ w).alloc (Nat.le_refl _) _).alloc (by simp) _); (case i2 => have hn_ := blk_new (w.alloc (.cells #[.slice none 0 0] 75)) (.cells #[.func (.func 116) #[] #[.pointer (some ⟨w.heap.size + 1, 0, none⟩), .pointer (some ⟨w.heap.size, 0, none⟩)]] 137); rw [World.size_alloc] at hn_; exact hn_); (case i3 => simp); (case i4 => exact blk_alloc (blk_new w _) _); rintro e w' ⟨⟨u, rfl⟩, hB1, hD1, hbase1, v1, hP1, hR1⟩; have hcP := blk_cell hP1 0)))
      go_ret2
      exact ⟨_, rfl, Kd.R_lower hR1 (by omega), hB1⟩
end

/-! ### plexuslaw03_opened: function 60 -/
def plexuslaw03_opened.f (k : Nat) (l0 : List Int) (a1 : Int) : Option (List Int × Int) := (seal_Open.f k l0 a1).bind fun bt116 => (some (bt116.1, bt116.2))
theorem plexuslaw03_opened.mono : ∀ a0 a1 k, LeO (plexuslaw03_opened.f k a0 a1) (plexuslaw03_opened.f (k + 1) a0 a1) := by
  intro a0 a1 k
  unfold plexuslaw03_opened.f
  repeat' first
      | (with_reducible exact seal_Open.mono _ _ _)
      | (with_reducible exact LeO.refl _)
      | (with_reducible exact LeO.none _)
      | (with_reducible refine LeO.ite ?_ ?_)
      | (with_reducible refine LeO.bind ?_ (fun _ => ?_))
      | exact seal_Open.mono _ _ _
      | exact LeO.none _
      | refine LeO.ite ?_ ?_
      | refine LeO.bind ?_ (fun _ => ?_)
set_option maxHeartbeats 8000000 in
set_option maxRecDepth 100000 in
theorem plexuslaw03_opened.calls (k : Nat) (A0 : Option Addr) (c0 : Nat) (l0 : List Int) (a1 : Int) (r1 : List Int) (r2 : Int) (w : World) (hr0 : Kd.C (Kd.int .u64) w A0 l0.length l0) (hc0 : l0.length ≤ c0) (h : plexuslaw03_opened.f k l0 a1 = some (r1, r2)) :
    Calls Try.prog 60 #[.slice A0 l0.length c0, .int .i64 a1] w fun e w' => ∃ v0_ : Value, e = .returned (.agg #[v0_, .int .i64 r2]) ∧ Kd.R (Kd.int .u64) 72 w' w.heap.size (fun _ => True) v0_ r1 ∧ Below w.heap.size w w' := by
  have hu80 := Try.underlying80
  have HR0 := Aside0.mk hr0
  have HC0 := Aside0.mk hc0
  clear hr0 hc0
  have HB := Aside0.mk (Below.refl w.heap.size w)
  have H : ((seal_Open.f k l0 a1).bind fun bt116 => (some (bt116.1, bt116.2))) = some (r1, r2) := h
  clear h
  replace H := Option.bind_eq_some_iff.mp H
  obtain ⟨⟨t116, t117⟩, A30, H⟩ := H
  replace H : (some (t116, t117)) = some (r1, r2) := H
  have A3 := Aside0.mk A30
  clear A30
  simp only [Option.some.injEq, Prod.mk.injEq] at H
  obtain ⟨rfl, rfl⟩ := H
  go_enter Try.func60, Try.ntmps60
  go_wp2_with (first | ((with_reducible refine gate_dst (N := 4) rfl ?_); refine box_event ?hg (N := 4) ?hd (cs := #[.slice none 0 0, .int .i64 0]) (t := 80) ?hr ?_; (case hd => rfl); (case hg => rfl); (case hr => first | (go_simp; done) | (go_simp; rfl)); intro gb115 hg w4 hbox hb; have n0_ := Aside0.mk (below_step (by repeat (first | (with_reducible first | exact HB.out | apply below_alloc | apply pw_below_drewN | apply below_drew1) | exact HB.out)) hb); have n1_ := Aside0.mk (hbox); have n2_ := Aside0.mk ((by rw [hg]; exact (below_size (by repeat (first | (with_reducible first | exact HB.out | apply below_alloc | apply pw_below_drewN | apply below_drew1) | exact HB.out))) : w.heap.size ≤ gb115)); have n3_ := Aside0.mk ((by rw [hg]; exact (below_size (by repeat (first | (with_reducible first | exact HB.out | apply below_alloc | apply pw_below_drewN | apply below_drew1) | exact HB.out))) : w.heap.size ≤ gb115)); clear HB; have HB := n0_; have BK115 := n1_; have GW115 := n2_; have GE115 := n3_; clear n0_ n1_ n2_ n3_; clear hb hbox hg) | ((with_reducible refine gate_callee (f := 99) rfl ?_); refine goesL_ (some 10) rfl rfl Try.func99 (by kernel_rfl) rfl #[.slice A0 l0.length c0, .int .i64 a1] rfl (by (try simp only [List.map_toArray, List.map_cons, List.map_nil]); first | done | rfl | (simp only [List.length_drop, List.length_take]; rfl)) ?_; (with_reducible refine (seal_Open.calls k _ _ l0 a1 t116 t117 _ ?side1 ?side2 A3.out).mono ?_); (case side1 => repeat (first | exact (Kd.C_below HR0.out HB.out) | (with_reducible refine Kd.C_alloc ?_ _) | (with_reducible refine Kd.C_drewN ?_ _) | (with_reducible refine Kd.C_drew ?_))); (case side2 => exact HC0.out); rintro e w5 ⟨v118, rfl, ho0, hb⟩; refine ⟨_, rfl, ?_⟩; have n0_ := Aside0.mk (Kd.R_lower ho0 (below_size (by repeat (first | (with_reducible first | exact HB.out | apply below_alloc | apply pw_below_drewN | apply below_drew1 | refine below_set ?_ GE115.out) | exact HB.out)))); have n1_ := Aside0.mk (blk_below (g := gb115) (o := .cells #[.slice none 0 0, .int .i64 0] 80 (0, 0)) (by (with_reducible repeat (first | refine blk_drewN ?_ _ | refine blk_drew ?_ | refine blk_alloc ?_ _)); exact BK115.out) hb); have n2_ := Aside0.mk (below_step (by repeat (first | (with_reducible first | exact HB.out | apply below_alloc | apply pw_below_drewN | apply below_drew1 | refine below_set ?_ GE115.out) | exact HB.out)) hb); clear BK115; clear HB; have HO119 := n0_; have BK115 := n1_; have HB := n2_; clear n0_ n1_ n2_; (try clear hb); (try clear hb2); (try clear hk); (try clear hi); (try clear ho0); obtain ⟨Ao6, co6, eo6⟩ := Kd.R_slice HO119.out; subst eo6; have hcz7_0 : w5.cell? ⟨gb115, 0, none⟩ = some (.slice none 0 0) := (blk_cell BK115.out 0).trans rfl; have hcz7_1 : w5.cell? ⟨gb115, 1, none⟩ = some (.int .i64 0) := (blk_cell BK115.out 1).trans rfl; have hfz7_0 := blk_frozen BK115.out 0; have hfz7_1 := blk_frozen BK115.out 1))
  refine bodyPost_ret (results_cell_row rfl _ _ gb115 80 #[.slice Ao6 t116.length co6, .int .i64 t117] (0, 0) _ rfl (by (with_reducible repeat (first | refine blk_drewN ?_ _ | refine blk_drew ?_ | refine blk_alloc ?_ _)); refine blk_put (cs := #[.slice Ao6 t116.length co6, .int .i64 0]) ?_ 1 _ rfl; (with_reducible repeat (first | refine blk_drewN ?_ _ | refine blk_drew ?_ | refine blk_alloc ?_ _)); refine blk_put (cs := #[.slice none 0 0, .int .i64 0]) ?_ 0 _ rfl; (with_reducible repeat (first | refine blk_drewN ?_ _ | refine blk_drew ?_ | refine blk_alloc ?_ _)); exact BK115.out) Try.underlying80 rfl (by kernel_rfl)) rfl ?_
  exact ⟨_, by first | rfl | (simp [errW_none, errW_some] <;> rfl) | (simp [*, errW_none, errW_some] <;> rfl), by (with_reducible repeat (first | apply Kd.R_alloc | apply Kd.R_drewN | apply Kd.R_drew)); exact Kd.R_mono (Kd.R_far (p := ⟨gb115, 1, none⟩) (Kd.R_far (p := ⟨gb115, 0, none⟩) (Kd.R_types HO119.out BK115.out (by decide)) (fun _ hk => hk.2) (.slice Ao6 t116.length co6)) (fun _ hk => hk.2) (.int .i64 t117)) (fun _ hk => trivial), by repeat (first | (with_reducible first | exact HB.out | apply below_alloc | apply pw_below_drewN | apply below_drew1 | refine below_set ?_ GE115.out) | exact HB.out)⟩

end Go.Proofs.Ytcanekmlabehgaa.P03
