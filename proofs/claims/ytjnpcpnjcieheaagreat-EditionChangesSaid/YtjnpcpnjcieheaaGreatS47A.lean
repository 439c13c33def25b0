/- Sections of printed walks. -/
import Derived.Test.YtjnpcpnjcieheaaGreatP47x0
namespace Go.Proofs.YtjnpcpnjcieheaaGreat.P47
open Go.RowKit Go.Proofs.YtjnpcpnjcieheaaGreatW.PrintWords Go.Proofs.YtjnpcpnjcieheaaGreatW.PrintLast Go.Proofs.YtjnpcpnjcieheaaGreatW.PrintMore
attribute [local go_sem] max2_int min2_int max_two min_two max_three min_three max_four min_four   -- for this text's walks alone
set_option linter.unusedVariables false
set_option linter.unusedSimpArgs false

/-! ### seal_digest_step: function 58 -/
def seal_digest_step.f (a0 : Int) (a1 : Int) : Option (Int) := some (IntKind.u64.wrap ((Go.bits .xor .u64 (IntKind.u64.wrap ((Go.bits .xor .u64 a0 a1) * 11400714819323198485)) ((IntKind.u64.wrap ((Go.bits .xor .u64 a0 a1) * 11400714819323198485)) / 536870912)) * 13787848793156543929))
set_option maxHeartbeats 8000000 in
set_option maxRecDepth 100000 in
theorem seal_digest_step.calls (a0 : Int) (a1 : Int) (r : Int) (w : World) (h : seal_digest_step.f a0 a1 = some r) :
    Calls Tryz.prog 58 #[.int .u64 a0, .int .u64 a1] w fun e w' => e = .returned (.int .u64 r) ∧ Drawn0 w w' := by
  have H : (some (IntKind.u64.wrap ((Go.bits .xor .u64 (IntKind.u64.wrap ((Go.bits .xor .u64 a0 a1) * 11400714819323198485)) ((IntKind.u64.wrap ((Go.bits .xor .u64 a0 a1) * 11400714819323198485)) / 536870912)) * 13787848793156543929))) = some r := h
  clear h
  obtain rfl := Option.some.inj H
  go_enter Tryz.func58, Tryz.ntmps58
  go_wp2
  go_ret
  exact ⟨by first | rfl | (simp; done) | (simp [*]; done), by repeat (first | exact Drawn0.refl _ | apply Drawn0.step)⟩

/-! ### seal_Words: function 36 -/
section
attribute [local go_sem] Oper.semAt_some

/-- A slice that is read, as the walks inside a fence want it. -/
theorem seal_Words.cells {k : IntKind} {W : World} {A : Option Addr} {n : Nat} {xs : List Int} (h : Kd.C (Kd.int k) W A n xs) (j : Nat) (hj : j < n) : ∃ ad, A = some ad ∧ W.cell? (ad.add j) = some (.int k (rd xs (j : Int))) := by
  obtain ⟨ad, e, hc⟩ := Kd.at_int h (j : Int) (by omega) (by omega)
  exact ⟨ad, e, by simpa using hc⟩

set_option maxRecDepth 100000 in
set_option maxHeartbeats 2000000 in
theorem seal_Words.gives (n : Nat) (hn : 1 ≤ n) (Bs n₀ : Nat) (A : Option Addr) (c : Nat) (xs : List Int) (w : World) (hBs : Bs < w.heap.size) (hn₀ : n₀ ≤ w.heap.size) (hlen : xs.length ≤ 9223372036854775807)
    (hc : w.cell? ⟨Bs, 0, none⟩ = some (.slice A xs.length c)) (hI : ∀ W, Below n₀ w W → Kd.C (Kd.int .i64) W A xs.length xs) :
    SeqStopsK Fence.wide n Tryz.prog 59 #[.pointer (some ⟨Bs, 0, none⟩)] (fun x : Int => #[Value.int .u64 x]) (Below n₀) (fun ys => ys = xs.map (IntKind.u64.wrap ·)) (fun _ => True) xs.length w := fun l J Jx W hW _ _ hY h0 => by
  have hBsW := (hW.cell (p := ⟨Bs, 0, none⟩) hBs).trans hc
  refine callsIn_of_wp Tryz.func59 rfl trivial ?_ rfl
  simp only [Tryz.ntmps59, List.size_toArray, List.length_cons, List.length_nil, Nat.reduceAdd, Nat.reduceSub, Array.replicate_succ, Array.replicate_zero, List.push_toArray, List.append_toArray, List.nil_append, List.cons_append]
  gi_wp2
  gi_loopw [7] (fun i wr => ∃ k : Nat, k ≤ xs.length ∧ i = .int .i64 k ∧ J ((xs.take k).map (IntKind.u64.wrap ·)) wr ∧ Below n₀ W wr)
    (fun i _ => xs.length - (intOf i).toNat)
  case atStart => exact ⟨0, Nat.zero_le _, rfl, h0, Below.refl _ _⟩
  case round =>
    obtain ⟨k, hk, rfl, hJs, hnx⟩ := hrel
    by_cases hlt : k < xs.length
    · obtain ⟨ad, rfl, hcx⟩ := seal_Words.cells (hI _ ((hW.mono hn₀).trans hnx)) k hlt
      obtain ⟨fn, tmps, assign, body, hy, hR⟩ := hY _ (IntKind.u64.wrap (rd xs (k : Int))) wr hJs (by simp; omega)
      gi_wp2
      refine hR.mono ?_
      rintro e W3 (⟨rfl, hJ3, hk3⟩ | ⟨rfl, hJx3⟩)
      · gi_wp2
        go_roundw
        case rel => exact ⟨k + 1, by omega, by simp, by rw [List.take_succ_eq_append_getElem hlt, List.map_append]; rw [show rd xs (k : Int) = xs[k] by simp [rd, hlt]] at hJ3; exact hJ3, hnx.trans hk3⟩
        case measure => simp [intOf]; omega
      · gi_wp2
        refine bodyPost_ret (results_none rfl _ _ _) rfl ?_
        exact ⟨⟨_, rfl⟩, .inr ⟨_, trivial, hJx3⟩⟩
    · obtain rfl : k = xs.length := by omega
      gi_wp2
      go_end0
      exact ⟨⟨_, rfl⟩, .inl ⟨_, rfl, by simpa using hJs⟩⟩

def seal_stepv (d w : Int) : Int := (seal_digest_step.f d w).getD 0
theorem seal_stepv_eq (d w : Int) : seal_digest_step.f d w = some (seal_stepv d w) := rfl

set_option maxRecDepth 100000 in
set_option maxHeartbeats 2000000 in
theorem seal_digest_all.in_ (n : Nat) (hn : 3 ≤ n) (gf : Nat) (lb : Array Value) (d0 : Int) (L : List Int) (N : Nat) (w : World) (eg : ∀ args w, (callFunc gf args).run Tryz.prog w = .ok (.enter gf args) w)
    (hseq : ∀ W, Below w.heap.size w W → SeqStopsK Fence.wide (n - 1) Tryz.prog gf lb (fun x : Int => #[Value.int .u64 x]) (Below w.heap.size) (fun ys => ys = L) (fun _ => True) N W) :
    CallsIn Fence.wide n Tryz.prog 60 #[.int .u64 d0, .func (.func gf) #[] lb] w fun e W' => e = .returned (.int .u64 (L.foldl seal_stepv d0)) ∧ Below w.heap.size w W' := by
  have h1 : 1 ≤ n := by omega
  refine callsIn_of_wp_marks Tryz.func60 rfl trivial ?_ rfl
  simp only [Tryz.ntmps60, List.size_toArray, List.length_cons, List.length_nil, Nat.reduceAdd, Nat.reduceSub, Array.replicate_succ, Array.replicate_zero, List.push_toArray, List.append_toArray, List.nil_append, List.cons_append]
  gi_wp2
  have hs : (w.alloc (.cells #[.int .u64 d0] 111)).cell? ⟨w.heap.size, 0, none⟩ = some (.int .u64 d0) ∧ (w.alloc (.cells #[.int .u64 d0] 111)).frozen? ⟨w.heap.size, 0, none⟩ = false := by simp
  have hB0 : Below w.heap.size w (w.alloc (.cells #[.int .u64 d0] 111)) := (Below.refl _ w).alloc (Nat.le_refl _) _
  refine wpIn_rangeFunc_ownF rfl h1 (gf := gf) (lb := lb) rfl trivial eg
    (hseq _ hB0) belowK_t (belowK_b (by simp)) (Below.refl _ _) (fun _ => rfl)
    (fun pre W => (W.cell? ⟨w.heap.size, 0, none⟩ = some (.int .u64 (pre.foldl seal_stepv d0)) ∧ W.frozen? ⟨w.heap.size, 0, none⟩ = false) ∧ Below w.heap.size w W)
    (fun _ _ _ => False)
    (OwnFrom.and (Own.from (fun s A B row hs hg hr => ⟨cell_kept hs.1 hg hr, (frozen_kept hs.1 hg hr).trans hs.2⟩) _) (ownFrom_below (Nat.le_refl _) (by simp)))
    (fun _ _ _ _ _ hs _ _ => hs)
    ⟨hs, hB0⟩
    (fun x => { tmps := #[.int .u64 d0, .func (.func gf) #[] lb, .pointer (some ⟨w.heap.size, 0, none⟩), undef, .int .u64 0, .int .u64 x, .func (.func gf) #[] lb, .int .u64 x, undef, undef, undef, undef], defers := [] }) ?assign ?body ?done ?stop
  case assign =>
    intro l x W K hK
    gi_wp2
    exact hK
  case body =>
    rintro l pre x W ⟨⟨hc, hf⟩, hB⟩ _
    have hd : 1 ≤ n - 1 - 1 := by omega
    have hmx : Tryz.prog.follows .mixedOrders = true := by kernel_rfl
    gi_wp2
    refine ⟨trivial, (CallsIn.inRound l (callsIn_wide.2 (seal_digest_step.calls (pre.foldl seal_stepv d0) x _ _ (seal_stepv_eq _ _)))).mono ?_⟩
    rintro e w' ⟨rfl, hdr⟩
    obtain ⟨⟨m, rfl⟩⟩ := hdr
    gi_wp2
    refine ⟨KeepsOthers.trans (B := W.drewN m) ⟨Nat.le_refl _, fun _ _ h _ => h⟩ (KeepsOthers.setCell _ _ _), ⟨(pw_below_drewN (Below.refl _ W) m).setCell (p := ⟨w.heap.size, 0, none⟩) (Nat.le_refl _) _, ⟨⟨?k3, ?k4⟩, (pw_below_drewN hB m).setCell (p := ⟨w.heap.size, 0, none⟩) (Nat.le_refl _) _⟩⟩⟩
    case k3 =>
      rw [List.foldl_append]
      exact World.cell?_setCell_same' _ _ _ (by rw [show (W.drewN m).cell? ⟨w.heap.size, 0, none⟩ = W.cell? ⟨w.heap.size, 0, none⟩ from rfl, hc]; rfl)
    case k4 =>
      rw [World.frozen?_setCell]
      exact hf
  case done =>
    rintro D ys W hD rfl ⟨⟨hc, _⟩, hB⟩ hK
    gi_wp2
    refine ⟨by simp, .inl ⟨_, _, rfl, run_takeDeferred hK, ?_⟩⟩
    exact ⟨_, results_tmp rfl _ _ _, rfl, hB.trans (belowK_b (w := w) (Nat.le_refl _) W D _ _ (by simp at hD; omega) hK rfl rfl)⟩
  case stop =>
    rintro D c pre W _ _ h _
    exact h.elim

def seal_Words.f (l0 : List Int) : Option Int := some (seal_stepv ((l0.map (IntKind.u64.wrap ·)).foldl seal_stepv 123610861172083) (IntKind.u64.wrap (l0.length : Int)))
set_option maxRecDepth 100000 in
set_option maxHeartbeats 2000000 in
theorem seal_Words.calls (A0 : Option Addr) (c0 : Nat) (l0 : List Int) (r : Int) (w : World) (hr0 : Kd.C (Kd.int .i64) w A0 l0.length l0) (hc0 : l0.length ≤ c0) (h : seal_Words.f l0 = some r) :
    Calls Tryz.prog 36 #[.slice A0 l0.length c0] w fun e w' => e = .returned (.int .u64 r) ∧ Below w.heap.size w w' := by
  obtain rfl := Option.some.inj h
  have hl := hr0.2.1
  have A := Aside0.mk hr0
  clear hr0
  go_enter Tryz.func36, Tryz.ntmps36
  go_wp2
  have hs : (w.alloc (.cells #[.slice A0 l0.length c0] 79)).cell? ⟨w.heap.size, 0, none⟩ = some (.slice A0 l0.length c0) := by simp
  have hB0 : Below w.heap.size w (w.alloc (.cells #[.slice A0 l0.length c0] 79)) := (Below.refl _ w).alloc (Nat.le_refl _) _
  have hall : ∀ W, Below (w.heap.size + 1) (w.alloc (.cells #[.slice A0 l0.length c0] 79)) W → Calls Tryz.prog 60 #[.int .u64 123610861172083, .func (.func 59) #[] #[.pointer (some ⟨w.heap.size, 0, none⟩)]] W fun e W' =>
      e = .returned (.int .u64 ((l0.map (IntKind.u64.wrap ·)).foldl seal_stepv 123610861172083)) ∧ Below (w.heap.size + 1) (w.alloc (.cells #[.slice A0 l0.length c0] 79)) W' := fun W hW => by
    have hsz := hW.size
    simp only [World.size_alloc] at hsz
    refine (callsIn_wide (n := 5)).1 ?_
    refine (seal_digest_all.in_ _ (by omega) 59 #[.pointer (some ⟨w.heap.size, 0, none⟩)] 123610861172083 (l0.map (IntKind.u64.wrap ·)) l0.length W (enters_of Tryz.func59 (by kernel_rfl) rfl) (fun W2 hW2 => ?_)).mono ?_
    · have hsz2 := hW2.size
      have h2 := hW.trans (hW2.mono hsz)
      refine seal_Words.gives _ (by omega) w.heap.size W.heap.size A0 c0 l0 W2 (by omega) (by omega) hl ((h2.cell (p := ⟨w.heap.size, 0, none⟩) (by simp)).trans hs) (fun W3 hW3 => Kd.C_below A.out (hB0.trans ((h2.trans (hW3.mono hsz)).mono (by omega))))
    · rintro e W' ⟨rfl, hb⟩
      exact ⟨rfl, hW.trans (hb.mono hsz)⟩
  go_region_with (first | (go_at_call 60; refine (hall _ (by first | exact Below.refl _ _ | exact below_drew1 (Below.refl _ _) | exact pw_below_drewN (Below.refl _ _) _)).mono ?_; rintro e w' ⟨rfl, hb⟩; have hcl := (hb.cell (p := ⟨w.heap.size, 0, none⟩) (by simp)).trans hs) | (go_at_call 58; refine (seal_digest_step.calls _ _ _ _ (seal_stepv_eq _ _)).mono ?_; rintro e w' ⟨rfl, hdr⟩))
  all_goals try go_wp2
  all_goals try go_ret
  all_goals (obtain ⟨⟨m, rfl⟩⟩ := hdr; exact ⟨rfl, pw_below_drewN (hB0.trans (hb.mono (by omega))) m⟩)
end

/-! ### seal_Join: function 35 -/
def seal_Join.f (a0 : Int) (a1 : Int) : Option (Int) := (seal_digest_step.f 1785686382 a0).bind fun t101 => ((seal_digest_step.f t101 a1).bind fun t102 => (some t102))
set_option maxHeartbeats 8000000 in
set_option maxRecDepth 100000 in
theorem seal_Join.calls (a0 : Int) (a1 : Int) (r : Int) (w : World) (h : seal_Join.f a0 a1 = some r) :
    Calls Tryz.prog 35 #[.int .u64 a0, .int .u64 a1] w fun e w' => e = .returned (.int .u64 r) ∧ Drawn0 w w' := by
  have H : ((seal_digest_step.f 1785686382 a0).bind fun t101 => ((seal_digest_step.f t101 a1).bind fun t102 => (some t102))) = some r := h
  clear h
  replace H := Option.bind_eq_some_iff.mp H
  obtain ⟨t101, A30, H⟩ := H
  replace H : ((seal_digest_step.f t101 a1).bind fun t102 => (some t102)) = some r := H
  have A3 := Aside0.mk A30
  clear A30
  replace H := Option.bind_eq_some_iff.mp H
  obtain ⟨t102, A40, H⟩ := H
  replace H : (some t102) = some r := H
  have A4 := Aside0.mk A40
  clear A40
  obtain rfl := Option.some.inj H
  go_enter Tryz.func35, Tryz.ntmps35
  go_wp2_with (first | ((with_reducible refine gate_callee (f := 58) rfl ?_); refine goesL_ (some 6) rfl rfl Tryz.func58 (by kernel_rfl) rfl #[.int .u64 1785686382, .int .u64 a0] rfl (by (try simp only [List.map_toArray, List.map_cons, List.map_nil]); first | done | rfl | (simp only [List.length_drop, List.length_take]; rfl)) ?_; (with_reducible refine (seal_digest_step.calls 1785686382 a0 t101 _ A3.out).mono ?_); rintro e w' ⟨rfl, ⟨nd, rfl⟩⟩; refine ⟨_, rfl, ?_⟩) | ((with_reducible refine gate_callee (f := 58) rfl ?_); refine goesL_ (some 8) rfl rfl Tryz.func58 (by kernel_rfl) rfl #[.int .u64 t101, .int .u64 a1] rfl (by (try simp only [List.map_toArray, List.map_cons, List.map_nil]); first | done | rfl | (simp only [List.length_drop, List.length_take]; rfl)) ?_; (with_reducible refine (seal_digest_step.calls t101 a1 t102 _ A4.out).mono ?_); rintro e w' ⟨rfl, ⟨nd, rfl⟩⟩; refine ⟨_, rfl, ?_⟩))
  go_ret
  exact ⟨by first | rfl | (simp; done) | (simp [*]; done), by repeat (first | exact Drawn0.refl _ | apply Drawn0.step)⟩

/-! ### bits_Len: function 91 -/
set_option maxHeartbeats 4000000 in
set_option maxRecDepth 100000 in
theorem bits_Len64.calls_ (x : Int) (w : World) (h0 : 0 ≤ x) (h1 : x < 65536) :
    Calls Tryz.prog 107 #[.int .u64 x] w fun e w' => e = .returned (.int .i64 (Lib.bitLen x.toNat)) ∧ w' = w := by
  have c1 : ¬ 4294967296 ≤ x := by omega
  have c2 : ¬ 65536 ≤ x := by omega
  go_enter Tryz.func107, Tryz.ntmps107
  by_cases c3 : 256 ≤ x
  · have q0 : 0 ≤ x / 256 := by omega
    have q1 : x / 256 ≤ 255 := by omega
    go_wp2
    go_ret
    refine ⟨congrArg Ending.returned (congrArg (Value.int IntKind.i64) ?_), rfl⟩
    rw [Lib.len8_of (x / 256) (by omega) (by omega)]
    have e : (x / 256).toNat = x.toNat / 256 := by omega
    have l := Lib.bitLen_le8' (x / 256) (by omega) (by omega)
    have s := Lib.bitLen_shift8 x.toNat (by omega) (by omega)
    rw [e] at l ⊢
    unfold wrap64
    omega
  · have q1 : x ≤ 255 := by omega
    go_wp2
    go_ret
    refine ⟨congrArg Ending.returned (congrArg (Value.int IntKind.i64) ?_), rfl⟩
    rw [Lib.len8_of x (by omega) (by omega)]
    have l := Lib.bitLen_le8' x (by omega) (by omega)
    unfold wrap64
    omega
def bits_Len.f (x : Int) : Option Int := if 0 ≤ x then (if x < 65536 then some (Lib.bitLen x.toNat : Int) else none) else none
set_option maxHeartbeats 4000000 in
set_option maxRecDepth 100000 in
theorem bits_Len.calls (x : Int) (r : Int) (w : World) (h : bits_Len.f x = some r) :
    Calls Tryz.prog 91 #[.int .u64 x] w fun e w' => e = .returned (.int .i64 r) ∧ Drawn0 w w' := by
  unfold bits_Len.f at h
  by_cases h0 : 0 ≤ x
  · rw [if_pos h0] at h
    by_cases h1 : x < 65536
    · rw [if_pos h1] at h
      obtain rfl := Option.some.inj h
      go_enter Tryz.func91, Tryz.ntmps91
      go_wp2_with (first | (go_at_call 107; refine (bits_Len64.calls_ x _ h0 h1).mono ?_; rintro e w' ⟨rfl, rfl⟩))
      go_ret
      exact ⟨rfl, Drawn0.refl _⟩
    · rw [if_neg h1] at h; exact absurd h (by simp)
  · rw [if_neg h0] at h; exact absurd h (by simp)

/-! ### seal_half: function 76 -/
def seal_half.f (a0 : Int) : Option (Int) := (bits_Len.f (IntKind.u64.wrap (wrap64 (a0 - 1)))).bind fun t103 => (if 0 ≤ (wrap64 (t103 - 1)) then (some (shl .i64 1 (wrap64 (t103 - 1)))) else (none))
set_option maxHeartbeats 8000000 in
set_option maxRecDepth 100000 in
theorem seal_half.calls (a0 : Int) (r : Int) (w : World) (h : seal_half.f a0 = some r) :
    Calls Tryz.prog 76 #[.int .i64 a0] w fun e w' => e = .returned (.int .i64 r) ∧ Drawn0 w w' := by
  have H : ((bits_Len.f (IntKind.u64.wrap (wrap64 (a0 - 1)))).bind fun t103 => (if 0 ≤ (wrap64 (t103 - 1)) then (some (shl .i64 1 (wrap64 (t103 - 1)))) else (none))) = some r := h
  clear h
  replace H := Option.bind_eq_some_iff.mp H
  obtain ⟨t103, A20, H⟩ := H
  replace H : (if 0 ≤ (wrap64 (t103 - 1)) then (some (shl .i64 1 (wrap64 (t103 - 1)))) else (none)) = some r := H
  have A2 := Aside0.mk A20
  clear A20
  obtain ⟨ji3, hji3⟩ : ∃ j_ : Int, (wrap64 (t103 - 1)) = j_ := ⟨_, rfl⟩
  replace H : (if 0 ≤ (ji3) then (some (shl .i64 1 (ji3))) else (none)) = some r := by first | (rw [hji3] at H; exact H) | (simp only [hji3] at H ⊢; exact H)
  (try rw [hji3] at A2)
  have hji3w : (IntKind.i64.wrap (t103 - 1)) = ji3 := (i64_w _).trans hji3
  by_cases c4 : 0 ≤ (ji3)
  · rw [if_pos c4] at H
    have c4b0 := eq_true c4
    have c4b1 : decide (0 ≤ (ji3)) = true := decide_eq_true c4
    clear c4
    obtain ⟨ji5, hji5⟩ : ∃ j_ : Int, (shl .i64 1 (ji3)) = j_ := ⟨_, rfl⟩
    replace H : (some ji5) = some r := by first | (rw [hji5] at H; exact H) | (simp only [hji5] at H ⊢; exact H)
    (try rw [hji5] at A2)
    have hji5_ : (IntKind.i64.wrap (1 * 2 ^ min (ji3).toNat 64)) = ji5 := hji5
    have hji5z : (ji3) ≤ 64 → (IntKind.i64.wrap (1 * 2 ^ (ji3).toNat)) = ji5 := shl_small hji5
    have hji5u : (IntKind.i64.wrap (2 ^ min (ji3).toNat 64)) = ji5 := by have h_ := hji5_; rw [Int.one_mul] at h_; exact h_
    have hji5v : (ji3) ≤ 64 → (IntKind.i64.wrap (2 ^ (ji3).toNat)) = ji5 := fun hle_ => by have h_ := hji5z hle_; rw [Int.one_mul] at h_; exact h_
    have hji5y : (wrap64 (1 * 2 ^ min (ji3).toNat 64)) = ji5 := (i64_w _).symm.trans hji5_
    have hji5x : (ji3) ≤ 64 → (wrap64 (1 * 2 ^ (ji3).toNat)) = ji5 := fun h_ => (i64_w _).symm.trans (hji5z h_)
    obtain rfl := Option.some.inj H
    go_enter Tryz.func76, Tryz.ntmps76
    go_wp2_with (first | ((with_reducible refine gate_callee (f := 91) rfl ?_); refine goesL_ (some 6) rfl rfl Tryz.func91 (by kernel_rfl) rfl #[.int .u64 (IntKind.u64.wrap (wrap64 (a0 - 1)))] rfl (by (try simp only [List.map_toArray, List.map_cons, List.map_nil]); first | done | rfl | (simp only [List.length_drop, List.length_take]; rfl)) ?_; (with_reducible refine (bits_Len.calls (IntKind.u64.wrap (wrap64 (a0 - 1))) t103 _ A2.out).mono ?_); rintro e w' ⟨rfl, ⟨nd, rfl⟩⟩; refine ⟨_, rfl, ?_⟩))
    go_ret
    exact ⟨by first | rfl | (simp; done) | (simp only [← hji3, ← hji5] <;> (first | rfl | simp)) | (simp [*]; done), by repeat (first | exact Drawn0.refl _ | apply Drawn0.step)⟩
  · rw [if_neg c4] at H
    exact absurd H (by simp)

/-! ### seal_Root: function 68 -/
def seal_Root.f : Nat → List Int → Option (Int)
  | 0, _ => none
  | k + 1, l0 => if (l0.length : Int) = 0 then ((seal_Words.f ([] : List Int)).bind fun t104 => (some t104)) else (if (l0.length : Int) = 1 then (if 0 < (l0.length : Int) then (some (rd l0 0)) else (none)) else ((seal_half.f (l0.length : Int)).bind fun t106 => (if 0 ≤ t106 then (if t106 ≤ (l0.length : Int) then ((seal_Root.f k (l0.take (t106 : Int).toNat)).bind fun t108 => ((seal_Root.f k (l0.drop (t106 : Int).toNat)).bind fun t110 => ((seal_Join.f t108 t110).bind fun t111 => (some t111)))) else (none)) else (none))))
theorem seal_Root.mono_l : ∀ k, (∀ y0, LeO (seal_Root.f k y0) (seal_Root.f (k + 1) y0))
  | 0 => fun _ r h => by simp [seal_Root.f] at h
  | k + 1 => by
    have ih0 := seal_Root.mono_l k
    · intro y0
      unfold seal_Root.f
      repeat' first
      | (with_reducible exact ih0 _)
      | (with_reducible exact LeO.refl _)
      | (with_reducible exact LeO.none _)
      | (with_reducible refine LeO.ite ?_ ?_)
      | (with_reducible refine LeO.bind ?_ (fun _ => ?_))
      | exact ih0 _
      | exact LeO.none _
      | refine LeO.ite ?_ ?_
      | refine LeO.bind ?_ (fun _ => ?_)
theorem seal_Root.mono : ∀ a0 k, LeO (seal_Root.f k a0) (seal_Root.f (k + 1) a0) := by
  intro a0 k
  have ih0 := seal_Root.mono_l k
  exact ih0 a0
def seal_Root.T7 : Bool × List (List Nat × List Nat) := (true, [([], []), ([], []), ([0, 1], [0, 1]), ([2], [2]), ([], []), ([], []), ([4, 5], [4, 5]), ([6, 3], [6]), ([3, 7, 7], [3, 7]), ([8, 8, 0, 1, 2, 3, 4, 5, 6, 7, 8], [8])])
def seal_Root.B7 : List Nat := [0, 0, 3, 7, 0, 0, 48, 127, 255, 511]
theorem seal_Root.tab7 : rtab .any (opsOf Tryz.f68 7) = seal_Root.T7 := by kernel_rfl
theorem seal_Root.bits7 : waitsOk seal_Root.T7.2 seal_Root.B7 = true := by kernel_rfl
set_option maxHeartbeats 8000000 in
set_option maxRecDepth 100000 in
theorem seal_Root.calls (k : Nat) : ∀ (A0 : Option Addr) (c0 : Nat) (l0 : List Int) (r : Int) (w : World) (hr0 : Kd.C (Kd.int .u64) w A0 l0.length l0) (hc0 : l0.length ≤ c0) (h : seal_Root.f k l0 = some r),
    Calls Tryz.prog 68 #[.slice A0 l0.length c0] w fun e w' => e = .returned (.int .u64 r) ∧ Below w.heap.size w w' := by
  induction k using Nat.strongRecOn with
  | _ k ih =>
  intro A0 c0 l0 r w hr0 hc0 h
  cases k with
  | zero => exact absurd h (by simp [seal_Root.f])
  | succ k =>
  simp only [seal_Root.f] at h
  have HR0 := Aside0.mk hr0
  have HC0 := Aside0.mk hc0
  clear hr0 hc0
  have HB := Aside0.mk (Below.refl w.heap.size w)
  have H : (if (l0.length : Int) = 0 then ((seal_Words.f ([] : List Int)).bind fun t104 => (some t104)) else (if (l0.length : Int) = 1 then (if 0 < (l0.length : Int) then (some (rd l0 0)) else (none)) else ((seal_half.f (l0.length : Int)).bind fun t106 => (if 0 ≤ t106 then (if t106 ≤ (l0.length : Int) then ((seal_Root.f k (l0.take (t106 : Int).toNat)).bind fun t108 => ((seal_Root.f k (l0.drop (t106 : Int).toNat)).bind fun t110 => ((seal_Join.f t108 t110).bind fun t111 => (some t111)))) else (none)) else (none))))) = some r := h
  clear h
  by_cases c2 : (l0.length : Int) = 0
  · rw [if_pos c2] at H
    have c2b0 : ((l0.length : Int) == 0) = true := beq_iff_eq.mpr c2
    have c2b1 : ((l0.length : Int) != 0) = false := bne_eq_false_iff_eq.mpr c2
    clear c2
    replace H := Option.bind_eq_some_iff.mp H
    obtain ⟨t104, A30, H⟩ := H
    replace H : (some t104) = some r := H
    have A3 := Aside0.mk A30
    clear A30
    obtain rfl := Option.some.inj H
    go_enter Tryz.func68, Tryz.ntmps68
    go_wp2_with (first | ((with_reducible refine gate_callee (f := 36) rfl ?_); refine goesL_ (some 8) rfl rfl Tryz.func36 (by kernel_rfl) rfl #[.slice none 0 0] rfl (by (try simp only [List.map_toArray, List.map_cons, List.map_nil]); first | done | rfl | (simp only [List.length_drop, List.length_take]; rfl)) ?_; (refine (seal_Words.calls _ _ ([] : List Int) t104 _ ?side1 ?side2 A3.out).mono ?_); (case side1 => exact Kd.C_nil _ _); (case side2 => exact Nat.le_refl _); rintro e w4 ⟨rfl, hb⟩; refine ⟨_, rfl, ?_⟩; have n0_ := Aside0.mk (below_step (by repeat (first | (with_reducible first | exact HB.out | apply below_alloc | apply pw_below_drewN | apply below_drew1) | exact HB.out)) hb); clear HB; have HB := n0_; clear n0_; (try clear hb); (try clear hb2); (try clear hk); (try clear hi)))
    go_ret
    exact ⟨by first | rfl | (simp [errW_none, errW_some] <;> rfl) | (simp [*, errW_none, errW_some] <;> rfl), by repeat (first | (with_reducible first | exact HB.out | apply below_alloc | apply pw_below_drewN | apply below_drew1) | exact HB.out)⟩
  · rw [if_neg c2] at H
    have c2b0 : ((l0.length : Int) == 0) = false := beq_eq_false_iff_ne.mpr c2
    have c2b1 : ((l0.length : Int) != 0) = true := bne_iff_ne.mpr c2
    have c2b2 : ¬ (l0 = []) := fun h_ => c2 (by rw [h_]; rfl)
    by_cases c5 : (l0.length : Int) = 1
    · rw [if_pos c5] at H
      have c5b0 : ((l0.length : Int) == 1) = true := beq_iff_eq.mpr c5
      have c5b1 : ((l0.length : Int) != 1) = false := bne_eq_false_iff_eq.mpr c5
      clear c5
      by_cases c6 : 0 < (l0.length : Int)
      · rw [if_pos c6] at H
        have c6b0 : decide (0 < (l0.length : Int)) = true := decide_eq_true c6
        have c6b1 : decide (0 < l0.length) = true := decide_eq_true (by omega)
        clear c6
        obtain rfl := Option.some.inj H
        have p105 : 0 ≤ (0 : Int) := (by omega)
        have q105 : 0 < (l0.length : Int) := of_decide_eq_true (by first | (with_reducible assumption) | assumption)
        obtain ⟨ad105, e105, hx105_0⟩ := Kd.at_int HR0.out 0 p105 q105
        cases e105
        have qi105 : (0 < l0.length) = True := eq_true (by omega)
        (try rw [show ((0 : Int)).toNat = 0 from rfl] at hx105_0)
        (try rw [Addr.add_zero'] at hx105_0)
        replace p105 := eq_true p105
        replace q105 := eq_true q105
        go_enter Tryz.func68, Tryz.ntmps68
        go_wp2
        go_ret
        exact ⟨by first | rfl | (simp [errW_none, errW_some] <;> rfl) | (simp [*, errW_none, errW_some] <;> rfl), by repeat (first | (with_reducible first | exact HB.out | apply below_alloc | apply pw_below_drewN | apply below_drew1) | exact HB.out)⟩
      · rw [if_neg c6] at H
        exact absurd H (by simp)
    · rw [if_neg c5] at H
      have c5b0 : ((l0.length : Int) == 1) = false := beq_eq_false_iff_ne.mpr c5
      have c5b1 : ((l0.length : Int) != 1) = true := bne_iff_ne.mpr c5
      replace H := Option.bind_eq_some_iff.mp H
      obtain ⟨t106, A70, H⟩ := H
      replace H : (if 0 ≤ t106 then (if t106 ≤ (l0.length : Int) then ((seal_Root.f k (l0.take (t106 : Int).toNat)).bind fun t108 => ((seal_Root.f k (l0.drop (t106 : Int).toNat)).bind fun t110 => ((seal_Join.f t108 t110).bind fun t111 => (some t111)))) else (none)) else (none)) = some r := H
      have A7 := Aside0.mk A70
      clear A70
      by_cases c8 : 0 ≤ t106
      · rw [if_pos c8] at H
        have c8b0 := eq_true c8
        have c8b1 : decide (0 ≤ t106) = true := decide_eq_true c8
        clear c8
        by_cases c9 : t106 ≤ (l0.length : Int)
        · rw [if_pos c9] at H
          have c9b0 := eq_true c9
          have c9b1 : decide (t106 ≤ (l0.length : Int)) = true := decide_eq_true c9
          clear c9
          replace H := Option.bind_eq_some_iff.mp H
          obtain ⟨t108, A100, H⟩ := H
          replace H : ((seal_Root.f k (l0.drop (t106 : Int).toNat)).bind fun t110 => ((seal_Join.f t108 t110).bind fun t111 => (some t111))) = some r := H
          have A10 := Aside0.mk A100
          clear A100
          have c11b0 := eq_true (of_decide_eq_true (by first | (with_reducible assumption) | assumption) : 0 ≤ t106)
          have c12b0 := eq_true (of_decide_eq_true (by first | (with_reducible assumption) | assumption) : t106 ≤ (l0.length : Int))
          replace H := Option.bind_eq_some_iff.mp H
          obtain ⟨t110, A130, H⟩ := H
          replace H : ((seal_Join.f t108 t110).bind fun t111 => (some t111)) = some r := H
          have A13 := Aside0.mk A130
          clear A130
          replace H := Option.bind_eq_some_iff.mp H
          obtain ⟨t111, A140, H⟩ := H
          replace H : (some t111) = some r := H
          have A14 := Aside0.mk A140
          clear A140
          obtain rfl := Option.some.inj H
          go_enter Tryz.func68, Tryz.ntmps68
          try go_wp2_with (first | ((with_reducible refine gate_callee (f := 76) rfl ?_); refine goesL_ (some 16) rfl rfl Tryz.func76 (by kernel_rfl) rfl #[.int .i64 (l0.length : Int)] rfl (by (try simp only [List.map_toArray, List.map_cons, List.map_nil]); first | done | rfl | (simp only [List.length_drop, List.length_take]; rfl)) ?_; (with_reducible refine (seal_half.calls (l0.length : Int) t106 _ A7.out).mono ?_); rintro e w' ⟨rfl, ⟨nd, rfl⟩⟩; refine ⟨_, rfl, ?_⟩))
          rw [drewN_self w]
          generalize hq_ : World.drewN w _ = w15
          have n_ := Aside0.mk (below_at hq_ HB.out)
          clear HB
          have HB := n_
          clear n_
          clear hq_
          have n0_ := Aside0.mk (below_drew1 HB.out)
          clear HB
          have HB := n0_
          clear n0_
          obtain ⟨i017, hi017, _, hsz17, _⟩ := info_parts info22
          obtain ⟨hcut17, hA17, hC17⟩ := print_take_of (P := Tryz.prog) (Value.int .u64) 0 57 22 .i64 Tryz.underlying57 hi017 hsz17 A0 c0 l0 t106 (of_decide_eq_true (by first | (with_reducible assumption) | assumption)) (of_decide_eq_true (by first | (with_reducible assumption) | assumption)) HC0.out
          have HR107 := Aside0.mk (Kd.C_of_reads (h1 := fun _ => rfl) (hA17 _ (Kd.reads_of_C HR0.out)))
          have HC107 := Aside0.mk hC17
          clear hA17 hC17 hi017 hsz17
          obtain ⟨i018, hi018, _, hsz18, _⟩ := info_parts info22
          obtain ⟨A18, hcut18, hA18, hC18⟩ := print_drop_of (P := Tryz.prog) (Value.int .u64) 0 57 22 .i64 Tryz.underlying57 hi018 hsz18 A0 c0 l0 t106 (of_decide_eq_true (by first | (with_reducible assumption) | assumption)) (of_decide_eq_true (by first | (with_reducible assumption) | assumption)) HC0.out
          have HR109 := Aside0.mk (Kd.C_of_reads (h1 := fun _ => rfl) (hA18 _ (Kd.reads_of_C HR0.out)))
          have HC109 := Aside0.mk hC18
          clear hA18 hC18 hi018 hsz18
          refine start_ (n := 10) (S := fun w' => True) (ds := []) #[false, false, false, false, false, false, false, false, false, false] (by kernel_rfl) rfl rfl trivial (fun hHeld => ?_); refine with_tabW seal_Root.tab7 seal_Root.bits7 (fun HT_ HW_ => ?_)
          generalize w15.drew = w16 at HB HR107 HR109 hHeld ⊢
          refine pure_ (i := 0) (N := some 17) (v := ?_) (a' := ?_) #[true, false, false, false, false, false, false, false, false, false] rfl rfl (any_of HT_.out (by kernel_rfl)) (fun _ _ _ h => h) (Or.inl ⟨by rfl, ?_⟩) ?_ ?_
          rotate_left
          · intro w'
            go_simp
            with_reducible rfl
          rotate_left
          · simp only [Act.put, List.setIfInBounds_toArray, List.set_cons_zero, List.set_cons_succ, i64_w, i32_w]
            rfl
          refine pure_ (i := 1) (N := some 18) (v := ?_) (a' := ?_) #[true, true, false, false, false, false, false, false, false, false] rfl rfl (any_of HT_.out (by kernel_rfl)) (fun _ _ _ h => h) (Or.inl ⟨by rfl, ?_⟩) ?_ ?_
          rotate_left
          · intro w'
            go_simp
            with_reducible rfl
          rotate_left
          · simp only [Act.put, List.setIfInBounds_toArray, List.set_cons_zero, List.set_cons_succ, i64_w, i32_w]
            rfl
          refine pure_ (i := 2) (N := some 19) (v := ?_) (a' := ?_) #[true, true, true, false, false, false, false, false, false, false] rfl rfl (any_of HT_.out (by kernel_rfl)) (fun _ _ _ h => h) (Or.inl ⟨by rfl, ?_⟩) ?_ ?_
          rotate_left
          · intro w'
            go_simp
            with_reducible rfl
          rotate_left
          · simp only [Act.put, List.setIfInBounds_toArray, List.set_cons_zero, List.set_cons_succ, i64_w, i32_w]
            rfl
          refine pure_ (i := 4) (N := some 21) (v := ?_) (a' := ?_) #[true, true, true, false, true, false, false, false, false, false] rfl rfl (any_of HT_.out (by kernel_rfl)) (fun _ _ _ h => h) (Or.inl ⟨by rfl, ?_⟩) ?_ ?_
          rotate_left
          · intro w'
            go_simp
            with_reducible rfl
          rotate_left
          · simp only [Act.put, List.setIfInBounds_toArray, List.set_cons_zero, List.set_cons_succ, i64_w, i32_w]
            rfl
          refine pure_ (i := 5) (N := some 22) (v := ?_) (a' := ?_) #[true, true, true, false, true, true, false, false, false, false] rfl rfl (any_of HT_.out (by kernel_rfl)) (fun _ _ _ h => h) (Or.inl ⟨by rfl, ?_⟩) ?_ ?_
          rotate_left
          · intro w'
            go_simp
            with_reducible rfl
          rotate_left
          · simp only [Act.put, List.setIfInBounds_toArray, List.set_cons_zero, List.set_cons_succ, i64_w, i32_w]
            rfl
          refine pure_ (i := 6) (N := some 23) (v := ?_) (a' := ?_) #[true, true, true, false, true, true, true, false, false, false] rfl rfl (any_of HT_.out (by kernel_rfl)) (fun _ _ _ h => h) (Or.inl ⟨by rfl, ?_⟩) ?_ ?_
          rotate_left
          · intro w'
            go_simp
            with_reducible rfl
          rotate_left
          · simp only [Act.put, List.setIfInBounds_toArray, List.set_cons_zero, List.set_cons_succ, i64_w, i32_w]
            rfl
          refine one_ (i := 3) (N := some 20) #[true, true, true, true, true, true, true, false, false, false] rfl rfl (one_of HT_.out (by kernel_rfl)) (by decide) (fun K hK => ?_)
          refine goes_ Tryz.func68 (by kernel_rfl) rfl #[.slice A0 (l0.take (t106 : Int).toNat).length c0] (by rfl) rfl rfl (by (try simp only [List.map_toArray, List.map_cons, List.map_nil]); first | done | (rw [show (l0.take (t106 : Int).toNat).length = t106.toNat from (by rw [List.length_take]; have h_ : (t106 : Int) ≤ (l0.length : Int) := of_decide_eq_true (by first | (with_reducible assumption) | assumption); omega)] <;> rfl) | rfl | (simp only [List.length_drop, List.length_take]; rfl)) ?_
          with_reducible refine (ih k (by omega) _ _ (l0.take (t106 : Int).toNat) t108 _ ?side1 ?side2 A10.out).mono ?_
          (case side1 => repeat (first | exact (Kd.C_below HR107.out HB.out) | (with_reducible refine Kd.C_alloc ?_ _) | (with_reducible refine Kd.C_drewN ?_ _) | (with_reducible refine Kd.C_drew ?_)))
          (case side2 => exact HC107.out)
          rintro e w19 ⟨rfl, hb⟩
          refine ⟨_, rfl, ?_⟩
          have n0_ := Aside0.mk (below_step (by repeat (first | (with_reducible first | exact HB.out | apply below_alloc | apply pw_below_drewN | apply below_drew1) | exact HB.out)) hb)
          clear HB
          have HB := n0_
          clear n0_
          (try clear hb)
          (try clear hb2)
          (try clear hk)
          (try clear hi)
          refine hK.out _ _ trivial (fun hHeld => ?_)
          clear hK K
          refine norm_ (a' := ?_) ?_ ?_
          rotate_left
          · show Act.put _ (some 20) _ = _
            simp only [Act.put, List.setIfInBounds_toArray, List.set_cons_zero, List.set_cons_succ, i64_w, i32_w]
            rfl
          refine one_ (i := 7) (N := some 24) #[true, true, true, true, true, true, true, true, false, false] rfl rfl (one_of HT_.out (by kernel_rfl)) (by decide) (fun K hK => ?_)
          refine goes_ Tryz.func68 (by kernel_rfl) rfl #[.slice A18 (l0.drop (t106 : Int).toNat).length (c0 - t106.toNat)] (by rfl) rfl rfl (by (try simp only [List.map_toArray, List.map_cons, List.map_nil]); first | done | (rw [show (l0.drop (t106 : Int).toNat).length = (l0.length - t106.toNat) from List.length_drop] <;> rfl) | rfl | (simp only [List.length_drop, List.length_take]; rfl)) ?_
          with_reducible refine (ih k (by omega) _ _ (l0.drop (t106 : Int).toNat) t110 _ ?side1 ?side2 A13.out).mono ?_
          (case side1 => repeat (first | exact (Kd.C_below HR109.out HB.out) | (with_reducible refine Kd.C_alloc ?_ _) | (with_reducible refine Kd.C_drewN ?_ _) | (with_reducible refine Kd.C_drew ?_)))
          (case side2 => exact HC109.out)
          rintro e w20 ⟨rfl, hb⟩
          refine ⟨_, rfl, ?_⟩
          have n0_ := Aside0.mk (below_step (by repeat (first | (with_reducible first | exact HB.out | apply below_alloc | apply pw_below_drewN | apply below_drew1) | exact HB.out)) hb)
          clear HB
          have HB := n0_
          clear n0_
          (try clear hb)
          (try clear hb2)
          (try clear hk)
          (try clear hi)
          refine hK.out _ _ trivial (fun hHeld => ?_)
          clear hK K
          refine norm_ (a' := ?_) ?_ ?_
          rotate_left
          · show Act.put _ (some 24) _ = _
            simp only [Act.put, List.setIfInBounds_toArray, List.set_cons_zero, List.set_cons_succ, i64_w, i32_w]
            rfl
          refine one_ (i := 8) (N := some 25) #[true, true, true, true, true, true, true, true, true, false] rfl rfl (one_of HT_.out (by kernel_rfl)) (by decide) (fun K hK => ?_)
          refine goes_ Tryz.func35 (by kernel_rfl) rfl #[.int .u64 t108, .int .u64 t110] (by rfl) rfl rfl (by (try simp only [List.map_toArray, List.map_cons, List.map_nil]); first | done | rfl | (simp only [List.length_drop, List.length_take]; rfl)) ?_
          with_reducible refine (seal_Join.calls t108 t110 t111 _ A14.out).mono ?_
          rintro e w' ⟨rfl, ⟨nd, rfl⟩⟩
          refine ⟨_, rfl, ?_⟩
          refine hK.out _ _ trivial (fun hHeld => ?_)
          clear hK K
          refine norm_ (a' := ?_) ?_ ?_
          rotate_left
          · show Act.put _ (some 25) _ = _
            simp only [Act.put, List.setIfInBounds_toArray, List.set_cons_zero, List.set_cons_succ, i64_w, i32_w]
            rfl
          refine pure_ (i := 9) (N := some 2) (v := ?_) (a' := ?_) #[true, true, true, true, true, true, true, true, true, true] rfl rfl (any_of HT_.out (by kernel_rfl)) (fun _ _ _ h => h) (Or.inl ⟨by rfl, ?_⟩) ?_ ?_
          rotate_left
          · intro w'
            go_simp
            with_reducible rfl
          rotate_left
          · simp only [Act.put, List.setIfInBounds_toArray, List.set_cons_zero, List.set_cons_succ, i64_w, i32_w]
            rfl
          refine done_ (done_of HT_.out (by kernel_rfl)) ?_
          try go_wp2
          go_ret
          exact ⟨by first | rfl | (simp [errW_none, errW_some] <;> rfl) | (simp [*, errW_none, errW_some] <;> rfl), by repeat (first | (with_reducible first | exact HB.out | apply below_alloc | apply pw_below_drewN | apply below_drew1) | exact HB.out)⟩
        · rw [if_neg c9] at H
          exact absurd H (by simp)
      · rw [if_neg c8] at H
        exact absurd H (by simp)

/-! ### seal_Open: function 74 -/
section
def seal_Open.down : Nat → List Int → Int → List Int → Option (List Int)
  | 0, _, _, _ => none
  | k + 1, l, i, P => if l.length = 1 then some P else
      (seal_half.f (l.length : Int)).bind fun h => if 0 ≤ h then (if h ≤ (l.length : Int) then
        (if i < h then (seal_Open.down k (l.take h.toNat) i P).bind fun P1 => (seal_Root.f k (l.drop h.toNat)).bind fun x => if P1.length < 17592186044415 then some (P1 ++ [x]) else none
         else (seal_Open.down k (l.drop h.toNat) (wrap64 (i - h)) P).bind fun P1 => (seal_Root.f k (l.take h.toNat)).bind fun x => if P1.length < 17592186044415 then some (P1 ++ [x]) else none) else none) else none
def seal_Open.Inv (w0 W : World) (bd bp base : Nat) (P : List Int) : Prop :=
  Below w0.heap.size w0 W ∧ W.heap[bd]? = some (.cells #[.func (.func 90) #[] #[.pointer (some ⟨bd, 0, none⟩), .pointer (some ⟨bp, 0, none⟩)]] 144 (0, 0)) ∧ base ≤ W.heap.size ∧
    ∃ v, W.heap[bp]? = some (.cells #[v] 57 (0, 0)) ∧ Kd.R (Kd.int .u64) 22 W base (fun _ => True) v P
set_option maxRecDepth 100000 in
set_option maxHeartbeats 8000000 in
theorem seal_Open.down_calls (w0 : World) (bd bp base : Nat) (k : Nat) : ∀ (A0 : Option Addr) (c0 : Nat) (l0 : List Int) (a1 : Int) (P r : List Int) (W : World) (hw0 : w0.heap.size ≤ base) (hbp : bp < base) (hne : bd < base) (hbp0 : w0.heap.size ≤ bp) (hdp : bd ≠ bp)
    (hC : Kd.C (Kd.int .u64) w0 A0 l0.length l0) (hc : l0.length ≤ c0) (hI : seal_Open.Inv w0 W bd bp base P) (hf : seal_Open.down k l0 a1 P = some r),
    Calls Tryz.prog 90 #[.slice A0 l0.length c0, .int .i64 a1, .pointer (some ⟨bd, 0, none⟩), .pointer (some ⟨bp, 0, none⟩)] W fun e W' => (∃ u, e = .returned u) ∧ seal_Open.Inv w0 W' bd bp base r := by
  induction k with
  | zero => intro A0 c0 l0 a1 P r W _ _ _ _ _ _ _ _ hf; exact absurd hf (by simp [seal_Open.down])
  | succ k ih =>
  intro A0 c0 l0 a1 P r W hw0 hbp hne hbp0 hdp hC hc ⟨hB, hD, hbase, v, hP, hR⟩ hf
  rw [seal_Open.down] at hf
  have hlen := hC.2.1
  by_cases h1 : l0.length = 1
  · rw [if_pos h1] at hf
    obtain rfl := Option.some.inj hf
    have h1b : ((l0.length : Int) == 1) = true := by simp [h1]
    go_enter Tryz.func90, Tryz.ntmps90
    go_wp2
    refine bodyPost_ret (results_none rfl _ _ _) rfl ?_
    exact ⟨⟨_, rfl⟩, hB, hD, hbase, v, hP, hR⟩
  rw [if_neg h1] at hf
  have h1b : ((l0.length : Int) == 1) = false := by simp; omega
  obtain ⟨h, e0, h2⟩ := Option.bind_eq_some_iff.mp hf
  by_cases c1 : 0 ≤ h
  · rw [if_pos c1] at h2
    by_cases c2 : h ≤ (l0.length : Int)
    · rw [if_pos c2] at h2
      obtain ⟨i016, hi016, _, hsz16, _⟩ := info_parts info22
      obtain ⟨hcutT, hAT, hcT⟩ := print_take_of (P := Tryz.prog) (Value.int .u64) 0 57 22 .i64 Tryz.underlying57 hi016 hsz16 A0 c0 l0 h c1 c2 hc
      have hCT := Kd.C_of_reads (h1 := fun _ => rfl) (hAT _ (Kd.reads_of_C hC))
      obtain ⟨A18, hcutD, hAD, hcD⟩ := print_drop_of (P := Tryz.prog) (Value.int .u64) 0 57 22 .i64 Tryz.underlying57 hi016 hsz16 A0 c0 l0 h c1 c2 hc
      have hCD := Kd.C_of_reads (h1 := fun _ => rfl) (hAD _ (Kd.reads_of_C hC))
      clear hAT hAD
      by_cases c3 : a1 < h
      · rw [if_pos c3] at h2
        obtain ⟨P1, e1, h3⟩ := Option.bind_eq_some_iff.mp h2
        obtain ⟨x, e2, h4⟩ := Option.bind_eq_some_iff.mp h3
        by_cases c4 : P1.length < 17592186044415
        · rw [if_pos c4] at h4
          obtain rfl := Option.some.inj h4
          clear h2 h3 h4
          have c3b : decide (a1 < h) = true := decide_eq_true c3
          go_enter Tryz.func90, Tryz.ntmps90
          go_wp2_with (first | (go_at_call 76; refine (seal_half.calls _ _ _ e0).mono ?_; rintro e w' ⟨rfl, ⟨nd, rfl⟩⟩))
          have hBd := below_drew1 (pw_below_drewN hB nd)
          have hD2 := blk_drew (blk_drewN hD nd)
          have hPd := blk_drew (blk_drewN hP nd)
          have hRd := Kd.R_drew (Kd.R_drewN hR nd)
          refine start_ (n := 6) (S := fun w' => w'.cell? ⟨bd, 0, none⟩ = some (.func (.func 90) #[] #[.pointer (some ⟨bd, 0, none⟩), .pointer (some ⟨bp, 0, none⟩)])) (ds := []) #[false, false, false, false, false, false] (by kernel_rfl) rfl rfl (blk_cell hD2 0) (fun hHeld => ?_)
          refine pure_ (i := 1) (N := some 17) (v := ?_) (a' := ?_) #[false, true, false, false, false, false] rfl rfl (by kernel_rfl) (fun _ _ _ h => h) (Or.inl ⟨by rfl, ?_⟩) ?_ ?_
          rotate_left
          · intro w'
            go_simp
            with_reducible rfl
          rotate_left
          · simp only [Act.put, List.setIfInBounds_toArray, List.set_cons_zero, List.set_cons_succ, i64_w, i32_w]
            rfl
          refine pure_ (i := 2) (N := some 18) (v := ?_) (a' := ?_) #[false, true, true, false, false, false] rfl rfl (by kernel_rfl) (fun _ _ _ h => h) (Or.inl ⟨by rfl, ?_⟩) ?_ ?_
          rotate_left
          · intro w'
            go_simp
            with_reducible rfl
          rotate_left
          · simp only [Act.put, List.setIfInBounds_toArray, List.set_cons_zero, List.set_cons_succ, i64_w, i32_w]
            rfl
          refine pure_ (i := 3) (N := some 19) (v := ?_) (a' := ?_) #[false, true, true, true, false, false] rfl rfl (by kernel_rfl) (fun _ _ _ h => h) (Or.inl ⟨by rfl, ?_⟩) ?_ ?_
          rotate_left
          · intro w'
            go_simp
            with_reducible rfl
          rotate_left
          · simp only [Act.put, List.setIfInBounds_toArray, List.set_cons_zero, List.set_cons_succ, i64_w, i32_w]
            rfl
          refine pure_ (i := 4) (N := some 20) (v := ?_) (a' := ?_) #[false, true, true, true, true, false] rfl rfl (by kernel_rfl) (fun _ _ _ h => h) (Or.inl ⟨by rfl, ?_⟩) ?_ ?_
          rotate_left
          · intro w'
            go_simp
            with_reducible rfl
          rotate_left
          · simp only [Act.put, List.setIfInBounds_toArray, List.set_cons_zero, List.set_cons_succ, i64_w, i32_w]
            rfl
          refine take_ (i := 0) (N := some 16) (v := ?_) (a' := ?_) #[true, true, true, true, true, false] rfl rfl (by kernel_rfl) (fun _ _ _ h => h) (Or.inl ⟨by rfl, ?_⟩) hHeld ?_ ?_
          rotate_left
          · intro w' s0
            go_simp
            with_reducible rfl
          rotate_left
          · simp only [Act.put, List.setIfInBounds_toArray, List.set_cons_zero, List.set_cons_succ, i64_w, i32_w]
            rfl
          refine one_ (i := 5) (N := some 21) #[true, true, true, true, true, true] rfl rfl (by kernel_rfl) (by decide) (fun K hK => ?_)
          refine call_ 90 #[.slice A0 (l0.take h.toNat).length c0, .int .i64 a1, .pointer (some ⟨bd, 0, none⟩), .pointer (some ⟨bp, 0, none⟩)] (by rfl) rfl ?hrun ?_
          case hrun =>
            have hE := fun (xs_ : Array Value) (W_ : World) => enters_ (P := Tryz.prog) Tryz.func90 (by kernel_rfl) rfl xs_ W_
            rw [show (l0.take h.toNat).length = h.toNat from (by rw [List.length_take]; omega)]
            unfold execOp
            simp [resolve, Deferred.ofValue, invoke, Act.eval, hE]
          refine (ih A0 c0 (l0.take h.toNat) a1 P P1 _ hw0 hbp hne hbp0 hdp hCT hcT ⟨hBd, hD2, hbase, v, hPd, hRd⟩ e1).mono ?_
          rintro e W1 ⟨⟨u, rfl⟩, hB1, hD1, hbase1, v1, hP1, hR1⟩
          refine ⟨_, rfl, ?_⟩
          refine hK.out _ _ (blk_cell hD1 0) (fun hHeld => ?_)
          clear hK K hHeld
          refine norm_ (a' := ?_) ?_ ?_
          rotate_left
          · show Act.put _ (some 21) _ = _
            simp only [Act.put, List.setIfInBounds_toArray, List.set_cons_zero, List.set_cons_succ, i64_w, i32_w]
            rfl
          refine done_ (by kernel_rfl) ?_
          try go_wp2
          have hP1c := blk_cell hP1 0
          refine start_ (n := 8) (S := fun w' => w'.cell? ⟨bp, 0, none⟩ = some v1) (ds := [7]) #[false, false, false, false, false, false, false, false] (by kernel_rfl) rfl rfl (blk_cell hP1 0) (fun hHeld => ?_)
          refine pure_ (i := 1) (N := some 23) (v := ?_) (a' := ?_) #[false, true, false, false, false, false, false, false] rfl rfl (by kernel_rfl) (fun _ _ _ h => h) (Or.inl ⟨by rfl, ?_⟩) ?_ ?_
          rotate_left
          · intro w'
            go_simp
            with_reducible rfl
          rotate_left
          · simp only [Act.put, List.setIfInBounds_toArray, List.set_cons_zero, List.set_cons_succ, i64_w, i32_w]
            rfl
          refine pure_ (i := 2) (N := some 24) (v := ?_) (a' := ?_) #[false, true, true, false, false, false, false, false] rfl rfl (by kernel_rfl) (fun _ _ _ h => h) (Or.inl ⟨by rfl, ?_⟩) ?_ ?_
          rotate_left
          · intro w'
            go_simp
            with_reducible rfl
          rotate_left
          · simp only [Act.put, List.setIfInBounds_toArray, List.set_cons_zero, List.set_cons_succ, i64_w, i32_w]
            rfl
          refine pure_ (i := 3) (N := some 25) (v := ?_) (a' := ?_) #[false, true, true, true, false, false, false, false] rfl rfl (by kernel_rfl) (fun _ _ _ h => h) (Or.inl ⟨by rfl, ?_⟩) ?_ ?_
          rotate_left
          · intro w'
            go_simp
            with_reducible rfl
          rotate_left
          · simp only [Act.put, List.setIfInBounds_toArray, List.set_cons_zero, List.set_cons_succ, i64_w, i32_w]
            rfl
          refine take_ (i := 0) (N := some 22) (v := ?_) (a' := ?_) #[true, true, true, true, false, false, false, false] rfl rfl (by kernel_rfl) (fun _ _ _ h => h) (Or.inl ⟨by rfl, ?_⟩) hHeld ?_ ?_
          rotate_left
          · intro w' s0
            go_simp
            with_reducible rfl
          rotate_left
          · simp only [Act.put, List.setIfInBounds_toArray, List.set_cons_zero, List.set_cons_succ, i64_w, i32_w]
            rfl
          refine one_ (i := 4) (N := some 26) #[true, true, true, true, true, false, false, false] rfl rfl (by kernel_rfl) (by decide) (fun K hK => ?_)
          refine goes_ Tryz.func68 (by kernel_rfl) rfl #[.slice A18 (l0.drop h.toNat).length (c0 - h.toNat)] (by rfl) rfl rfl (by (try simp only [List.map_toArray, List.map_cons, List.map_nil]); first | done | (rw [show (l0.drop h.toNat).length = (l0.length - h.toNat) from List.length_drop] <;> rfl) | rfl) ?_
          refine (seal_Root.calls k A18 (c0 - h.toNat) (l0.drop h.toNat) x _ (Kd.C_below hCD (below_drew1 hB1)) hcD e2).mono ?_
          rintro e W2 ⟨rfl, hb2⟩
          have hb2' : Below W1.heap.size W1 W2 := (below_drew1 (Below.refl _ W1)).trans hb2
          have hD2' := blk_below hD1 hb2'
          have hP2 := blk_below hP1 hb2'
          have hR2 := Kd.R_below hR1 hb2'
          have hB2 := below_step hB1 hb2'
          have hbase2 : base ≤ W2.heap.size := Nat.le_trans hbase1 hb2'.size
          refine ⟨_, rfl, ?_⟩
          refine hK.out _ _ (blk_cell hP2 0) (fun hHeld => ?_)
          clear hK K hHeld
          refine norm_ (a' := ?_) ?_ ?_
          rotate_left
          · show Act.put _ (some 26) _ = _
            simp only [Act.put, List.setIfInBounds_toArray, List.set_cons_zero, List.set_cons_succ, i64_w, i32_w]
            rfl
          refine one_ (i := 5) (N := some 27) #[true, true, true, true, true, true, false, false] rfl rfl (by kernel_rfl) (by decide) (fun K hK => ?_)
          refine value_ (w1 := ?_) (v := ?_) (by rfl) rfl ?_ ?_
          rotate_left 2
          · go_simp
            constructor
            · rfl
            · rfl
          refine hK.out _ _ (blk_cell (blk_alloc hP2 _) 0) (fun hHeld => ?_)
          clear hK K hHeld
          refine norm_ (a' := ?_) ?_ ?_
          rotate_left
          · show Act.put _ (some 27) _ = _
            simp only [Act.put, List.setIfInBounds_toArray, List.set_cons_zero, List.set_cons_succ, i64_w, i32_w]
            rfl
          refine one_ (i := 6) (N := some 28) #[true, true, true, true, true, true, true, false] rfl rfl (by kernel_rfl) (by decide) (fun K hK => ?_)
          refine Kd.R_append_step (Kd.int .u64) (w0 := W2) base (by rfl) (.tmp 22) (.tmp 27) 57 22 (.int .u64 0) 8 rfl Tryz.underlying57 info22 rfl (by decide) (by omega) v1 P1 x [.int .u64 x] (fun _ => True) (fun _ => False) rfl rfl ?aP (fun _ hk => hk.elim) ?aF ?aO ?aB ?aS ?aL ?_
          (case aP => exact rfl)
          (case aB => exact Below.refl _ _)
          (case aF => exact (fun _ _ => trivial))
          (case aO => exact hR2)
          (case aS => exact hbase2)
          (case aL => omega)
          intro v3 W3 ho hb hg hat
          have hD3 : W3.heap[bd]? = _ := (hb.block bd (by omega)).trans hD2'
          have hP3 : W3.heap[bp]? = _ := (hb.block bp hbp).trans hP2
          refine hK.out _ _ (blk_cell hP3 0) (fun hHeld => ?_)
          clear hK K hHeld
          refine norm_ (a' := ?_) ?_ ?_
          rotate_left
          · show Act.put _ (some 28) _ = _
            simp only [Act.put, List.setIfInBounds_toArray, List.set_cons_zero, List.set_cons_succ, i64_w, i32_w]
            rfl
          refine last_ (i := 7) (N := none) #[true, true, true, true, true, true, true, true] rfl rfl (by kernel_rfl) (by decide) (fun K hK => ?_)
          obtain ⟨A9, c9, e9⟩ := Kd.R_slice ho
          subst e9
          rw [show (P1 ++ [x]).length = P1.length + 1 by simp] at ho
          have hfz := blk_frozen hP3 0
          have hcz := blk_cell hP3 0
          refine skip_ (w1 := ?_) (by rfl) rfl ?_ ?_
          rotate_left
          · go_simp
            rfl
          refine hK.out _ _ ?_
          clear hK K
          refine done_ (by kernel_rfl) ?_
          try go_wp2
          first | refine bodyPost_ret (results_none rfl _ _ _) rfl ?_ | go_end0
          refine ⟨⟨_, rfl⟩, ?_, blk_far hD3 ?_ _, ?_, _, blk_set hP3 0 _, ?_⟩
          · exact (hB2.trans (hb.mono hw0)).setCell (p := ⟨bp, 0, none⟩) hbp0 _
          · exact hdp
          · have := hb.size; simp; omega
          · exact Kd.R_set ho hP3 (by decide) 0 _
        · rw [if_neg c4] at h4; exact absurd h4 (by simp)
      · rw [if_neg c3] at h2
        obtain ⟨P1, e1, h3⟩ := Option.bind_eq_some_iff.mp h2
        obtain ⟨x, e2, h4⟩ := Option.bind_eq_some_iff.mp h3
        by_cases c4 : P1.length < 17592186044415
        · rw [if_pos c4] at h4
          obtain rfl := Option.some.inj h4
          clear h2 h3 h4
          have c3b : decide (a1 < h) = false := decide_eq_false c3
          go_enter Tryz.func90, Tryz.ntmps90
          go_wp2_with (first | (go_at_call 76; refine (seal_half.calls _ _ _ e0).mono ?_; rintro e w' ⟨rfl, ⟨nd, rfl⟩⟩))
          have hBd := below_drew1 (pw_below_drewN hB nd)
          have hD2 := blk_drew (blk_drewN hD nd)
          have hPd := blk_drew (blk_drewN hP nd)
          have hRd := Kd.R_drew (Kd.R_drewN hR nd)
          refine start_ (n := 8) (S := fun w' => w'.cell? ⟨bd, 0, none⟩ = some (.func (.func 90) #[] #[.pointer (some ⟨bd, 0, none⟩), .pointer (some ⟨bp, 0, none⟩)])) (ds := []) #[false, false, false, false, false, false, false, false] (by kernel_rfl) rfl rfl (blk_cell hD2 0) (fun hHeld => ?_)
          refine pure_ (i := 1) (N := some 30) (v := ?_) (a' := ?_) #[false, true, false, false, false, false, false, false] rfl rfl (by kernel_rfl) (fun _ _ _ h => h) (Or.inl ⟨by rfl, ?_⟩) ?_ ?_
          rotate_left
          · intro w'
            go_simp
            with_reducible rfl
          rotate_left
          · simp only [Act.put, List.setIfInBounds_toArray, List.set_cons_zero, List.set_cons_succ, i64_w, i32_w]
            rfl
          refine pure_ (i := 2) (N := some 31) (v := ?_) (a' := ?_) #[false, true, true, false, false, false, false, false] rfl rfl (by kernel_rfl) (fun _ _ _ h => h) (Or.inl ⟨by rfl, ?_⟩) ?_ ?_
          rotate_left
          · intro w'
            go_simp
            with_reducible rfl
          rotate_left
          · simp only [Act.put, List.setIfInBounds_toArray, List.set_cons_zero, List.set_cons_succ, i64_w, i32_w]
            rfl
          refine pure_ (i := 3) (N := some 32) (v := ?_) (a' := ?_) #[false, true, true, true, false, false, false, false] rfl rfl (by kernel_rfl) (fun _ _ _ h => h) (Or.inl ⟨by rfl, ?_⟩) ?_ ?_
          rotate_left
          · intro w'
            go_simp
            with_reducible rfl
          rotate_left
          · simp only [Act.put, List.setIfInBounds_toArray, List.set_cons_zero, List.set_cons_succ, i64_w, i32_w]
            rfl
          refine pure_ (i := 4) (N := some 33) (v := ?_) (a' := ?_) #[false, true, true, true, true, false, false, false] rfl rfl (by kernel_rfl) (fun _ _ _ h => h) (Or.inl ⟨by rfl, ?_⟩) ?_ ?_
          rotate_left
          · intro w'
            go_simp
            with_reducible rfl
          rotate_left
          · simp only [Act.put, List.setIfInBounds_toArray, List.set_cons_zero, List.set_cons_succ, i64_w, i32_w]
            rfl
          refine pure_ (i := 5) (N := some 34) (v := ?_) (a' := ?_) #[false, true, true, true, true, true, false, false] rfl rfl (by kernel_rfl) (fun _ _ _ h => h) (Or.inl ⟨by rfl, ?_⟩) ?_ ?_
          rotate_left
          · intro w'
            go_simp
            with_reducible rfl
          rotate_left
          · simp only [Act.put, List.setIfInBounds_toArray, List.set_cons_zero, List.set_cons_succ, i64_w, i32_w]
            rfl
          refine pure_ (i := 6) (N := some 35) (v := ?_) (a' := ?_) #[false, true, true, true, true, true, true, false] rfl rfl (by kernel_rfl) (fun _ _ _ h => h) (Or.inl ⟨by rfl, ?_⟩) ?_ ?_
          rotate_left
          · intro w'
            go_simp
            with_reducible rfl
          rotate_left
          · simp only [Act.put, List.setIfInBounds_toArray, List.set_cons_zero, List.set_cons_succ, i64_w, i32_w]
            rfl
          refine take_ (i := 0) (N := some 29) (v := ?_) (a' := ?_) #[true, true, true, true, true, true, true, false] rfl rfl (by kernel_rfl) (fun _ _ _ h => h) (Or.inl ⟨by rfl, ?_⟩) hHeld ?_ ?_
          rotate_left
          · intro w' s0
            go_simp
            with_reducible rfl
          rotate_left
          · simp only [Act.put, List.setIfInBounds_toArray, List.set_cons_zero, List.set_cons_succ, i64_w, i32_w]
            rfl
          refine one_ (i := 7) (N := some 36) #[true, true, true, true, true, true, true, true] rfl rfl (by kernel_rfl) (by decide) (fun K hK => ?_)
          refine call_ 90 #[.slice A18 (l0.drop h.toNat).length (c0 - h.toNat), .int .i64 (wrap64 (a1 - h)), .pointer (some ⟨bd, 0, none⟩), .pointer (some ⟨bp, 0, none⟩)] (by rfl) rfl ?hrun ?_
          case hrun =>
            have hE := fun (xs_ : Array Value) (W_ : World) => enters_ (P := Tryz.prog) Tryz.func90 (by kernel_rfl) rfl xs_ W_
            rw [show (l0.drop h.toNat).length = (l0.length - h.toNat) from List.length_drop]
            unfold execOp
            simp [resolve, Deferred.ofValue, invoke, Act.eval, hE]
          refine (ih A18 (c0 - h.toNat) (l0.drop h.toNat) (wrap64 (a1 - h)) P P1 _ hw0 hbp hne hbp0 hdp hCD hcD ⟨hBd, hD2, hbase, v, hPd, hRd⟩ e1).mono ?_
          rintro e W1 ⟨⟨u, rfl⟩, hB1, hD1, hbase1, v1, hP1, hR1⟩
          refine ⟨_, rfl, ?_⟩
          refine hK.out _ _ (blk_cell hD1 0) (fun hHeld => ?_)
          clear hK K hHeld
          refine norm_ (a' := ?_) ?_ ?_
          rotate_left
          · show Act.put _ (some 36) _ = _
            simp only [Act.put, List.setIfInBounds_toArray, List.set_cons_zero, List.set_cons_succ, i64_w, i32_w]
            rfl
          refine done_ (by kernel_rfl) ?_
          try go_wp2
          have hP1c := blk_cell hP1 0
          refine start_ (n := 8) (S := fun w' => w'.cell? ⟨bp, 0, none⟩ = some v1) (ds := [7]) #[false, false, false, false, false, false, false, false] (by kernel_rfl) rfl rfl (blk_cell hP1 0) (fun hHeld => ?_)
          refine pure_ (i := 1) (N := some 38) (v := ?_) (a' := ?_) #[false, true, false, false, false, false, false, false] rfl rfl (by kernel_rfl) (fun _ _ _ h => h) (Or.inl ⟨by rfl, ?_⟩) ?_ ?_
          rotate_left
          · intro w'
            go_simp
            with_reducible rfl
          rotate_left
          · simp only [Act.put, List.setIfInBounds_toArray, List.set_cons_zero, List.set_cons_succ, i64_w, i32_w]
            rfl
          refine pure_ (i := 2) (N := some 39) (v := ?_) (a' := ?_) #[false, true, true, false, false, false, false, false] rfl rfl (by kernel_rfl) (fun _ _ _ h => h) (Or.inl ⟨by rfl, ?_⟩) ?_ ?_
          rotate_left
          · intro w'
            go_simp
            with_reducible rfl
          rotate_left
          · simp only [Act.put, List.setIfInBounds_toArray, List.set_cons_zero, List.set_cons_succ, i64_w, i32_w]
            rfl
          refine pure_ (i := 3) (N := some 40) (v := ?_) (a' := ?_) #[false, true, true, true, false, false, false, false] rfl rfl (by kernel_rfl) (fun _ _ _ h => h) (Or.inl ⟨by rfl, ?_⟩) ?_ ?_
          rotate_left
          · intro w'
            go_simp
            with_reducible rfl
          rotate_left
          · simp only [Act.put, List.setIfInBounds_toArray, List.set_cons_zero, List.set_cons_succ, i64_w, i32_w]
            rfl
          refine take_ (i := 0) (N := some 37) (v := ?_) (a' := ?_) #[true, true, true, true, false, false, false, false] rfl rfl (by kernel_rfl) (fun _ _ _ h => h) (Or.inl ⟨by rfl, ?_⟩) hHeld ?_ ?_
          rotate_left
          · intro w' s0
            go_simp
            with_reducible rfl
          rotate_left
          · simp only [Act.put, List.setIfInBounds_toArray, List.set_cons_zero, List.set_cons_succ, i64_w, i32_w]
            rfl
          refine one_ (i := 4) (N := some 41) #[true, true, true, true, true, false, false, false] rfl rfl (by kernel_rfl) (by decide) (fun K hK => ?_)
          refine goes_ Tryz.func68 (by kernel_rfl) rfl #[.slice A0 (l0.take h.toNat).length c0] (by rfl) rfl rfl (by (try simp only [List.map_toArray, List.map_cons, List.map_nil]); first | done | (rw [show (l0.take h.toNat).length = h.toNat from (by rw [List.length_take]; omega)] <;> rfl) | rfl) ?_
          refine (seal_Root.calls k A0 c0 (l0.take h.toNat) x _ (Kd.C_below hCT (below_drew1 hB1)) hcT e2).mono ?_
          rintro e W2 ⟨rfl, hb2⟩
          have hb2' : Below W1.heap.size W1 W2 := (below_drew1 (Below.refl _ W1)).trans hb2
          have hD2' := blk_below hD1 hb2'
          have hP2 := blk_below hP1 hb2'
          have hR2 := Kd.R_below hR1 hb2'
          have hB2 := below_step hB1 hb2'
          have hbase2 : base ≤ W2.heap.size := Nat.le_trans hbase1 hb2'.size
          refine ⟨_, rfl, ?_⟩
          refine hK.out _ _ (blk_cell hP2 0) (fun hHeld => ?_)
          clear hK K hHeld
          refine norm_ (a' := ?_) ?_ ?_
          rotate_left
          · show Act.put _ (some 41) _ = _
            simp only [Act.put, List.setIfInBounds_toArray, List.set_cons_zero, List.set_cons_succ, i64_w, i32_w]
            rfl
          refine one_ (i := 5) (N := some 42) #[true, true, true, true, true, true, false, false] rfl rfl (by kernel_rfl) (by decide) (fun K hK => ?_)
          refine value_ (w1 := ?_) (v := ?_) (by rfl) rfl ?_ ?_
          rotate_left 2
          · go_simp
            constructor
            · rfl
            · rfl
          refine hK.out _ _ (blk_cell (blk_alloc hP2 _) 0) (fun hHeld => ?_)
          clear hK K hHeld
          refine norm_ (a' := ?_) ?_ ?_
          rotate_left
          · show Act.put _ (some 42) _ = _
            simp only [Act.put, List.setIfInBounds_toArray, List.set_cons_zero, List.set_cons_succ, i64_w, i32_w]
            rfl
          refine one_ (i := 6) (N := some 43) #[true, true, true, true, true, true, true, false] rfl rfl (by kernel_rfl) (by decide) (fun K hK => ?_)
          refine Kd.R_append_step (Kd.int .u64) (w0 := W2) base (by rfl) (.tmp 37) (.tmp 42) 57 22 (.int .u64 0) 8 rfl Tryz.underlying57 info22 rfl (by decide) (by omega) v1 P1 x [.int .u64 x] (fun _ => True) (fun _ => False) rfl rfl ?aP (fun _ hk => hk.elim) ?aF ?aO ?aB ?aS ?aL ?_
          (case aP => exact rfl)
          (case aB => exact Below.refl _ _)
          (case aF => exact (fun _ _ => trivial))
          (case aO => exact hR2)
          (case aS => exact hbase2)
          (case aL => omega)
          intro v3 W3 ho hb hg hat
          have hD3 : W3.heap[bd]? = _ := (hb.block bd (by omega)).trans hD2'
          have hP3 : W3.heap[bp]? = _ := (hb.block bp hbp).trans hP2
          refine hK.out _ _ (blk_cell hP3 0) (fun hHeld => ?_)
          clear hK K hHeld
          refine norm_ (a' := ?_) ?_ ?_
          rotate_left
          · show Act.put _ (some 43) _ = _
            simp only [Act.put, List.setIfInBounds_toArray, List.set_cons_zero, List.set_cons_succ, i64_w, i32_w]
            rfl
          refine last_ (i := 7) (N := none) #[true, true, true, true, true, true, true, true] rfl rfl (by kernel_rfl) (by decide) (fun K hK => ?_)
          obtain ⟨A9, c9, e9⟩ := Kd.R_slice ho
          subst e9
          rw [show (P1 ++ [x]).length = P1.length + 1 by simp] at ho
          have hfz := blk_frozen hP3 0
          have hcz := blk_cell hP3 0
          refine skip_ (w1 := ?_) (by rfl) rfl ?_ ?_
          rotate_left
          · go_simp
            rfl
          refine hK.out _ _ ?_
          clear hK K
          refine done_ (by kernel_rfl) ?_
          try go_wp2
          first | refine bodyPost_ret (results_none rfl _ _ _) rfl ?_ | go_end0
          refine ⟨⟨_, rfl⟩, ?_, blk_far hD3 ?_ _, ?_, _, blk_set hP3 0 _, ?_⟩
          · exact (hB2.trans (hb.mono hw0)).setCell (p := ⟨bp, 0, none⟩) hbp0 _
          · exact hdp
          · have := hb.size; simp; omega
          · exact Kd.R_set ho hP3 (by decide) 0 _
        · rw [if_neg c4] at h4; exact absurd h4 (by simp)
    · rw [if_neg c2] at h2; exact absurd h2 (by simp)
  · rw [if_neg c1] at h2; exact absurd h2 (by simp)
theorem seal_Open.down_mono : ∀ (k : Nat) (l : List Int) (i : Int) (P : List Int), LeO (seal_Open.down k l i P) (seal_Open.down (k + 1) l i P)
  | 0, _, _, _ => fun r h => by simp [seal_Open.down] at h
  | k + 1, l, i, P => by
    rw [seal_Open.down, seal_Open.down]
    repeat' first
      | (with_reducible exact seal_Open.down_mono k _ _ _)
      | (with_reducible exact seal_Root.mono _ _)
      | (with_reducible exact LeO.refl _)
      | (with_reducible exact LeO.none _)
      | (with_reducible refine LeO.ite ?_ ?_)
      | (with_reducible refine LeO.bind ?_ (fun _ => ?_))
def seal_Open.f (k : Nat) (l0 : List Int) (a1 : Int) : Option (List Int × Int) := if a1 < 0 then some ([], 1) else if a1 ≥ (l0.length : Int) then some ([], 1) else (seal_Open.down k l0 a1 []).bind fun r => some (r, 0)
theorem seal_Open.mono : ∀ a0 a1 k, LeO (seal_Open.f k a0 a1) (seal_Open.f (k + 1) a0 a1) := by
  intro a0 a1 k
  unfold seal_Open.f
  repeat' first
    | (with_reducible exact seal_Open.down_mono k _ _ _)
    | (with_reducible exact LeO.refl _)
    | (with_reducible refine LeO.ite ?_ ?_)
    | (with_reducible refine LeO.bind ?_ (fun _ => ?_))
set_option maxRecDepth 100000 in
set_option maxHeartbeats 8000000 in
theorem seal_Open.calls (k : Nat) (A0 : Option Addr) (c0 : Nat) (l0 : List Int) (a1 : Int) (r1 : List Int) (r2 : Int) (w : World) (hr0 : Kd.C (Kd.int .u64) w A0 l0.length l0) (hc0 : l0.length ≤ c0) (h : seal_Open.f k l0 a1 = some (r1, r2)) :
    Calls Tryz.prog 74 #[.slice A0 l0.length c0, .int .i64 a1] w fun e w' => ∃ v0_ : Value, e = .returned (.tuple #[v0_, .int .i64 r2]) ∧ Kd.R (Kd.int .u64) 22 w' w.heap.size (fun _ => True) v0_ r1 ∧ Below w.heap.size w w' := by
  unfold seal_Open.f at h
  have hlen := hr0.2.1
  have hnil : ∀ (W : World) (B : Nat), Kd.R (Kd.int .u64) 22 W B (fun _ => True) (.slice none 0 0) [] := fun W B => Kd.R_nil _ _ _ _ _
  by_cases c1 : a1 < 0
  · rw [if_pos c1] at h
    obtain ⟨rfl, rfl⟩ := Prod.mk.inj (Option.some.inj h)
    have c1b : decide (a1 < 0) = true := decide_eq_true c1
    go_enter Tryz.func74, Tryz.ntmps74
    go_wp2
    go_ret2
    exact ⟨_, rfl, hnil _ _, by first | exact Below.refl _ _ | exact pw_below_drewN (Below.refl _ _) _⟩
  · rw [if_neg c1] at h
    have c1b : decide (a1 < 0) = false := decide_eq_false c1
    by_cases c2 : a1 ≥ (l0.length : Int)
    · rw [if_pos c2] at h
      obtain ⟨rfl, rfl⟩ := Prod.mk.inj (Option.some.inj h)
      have c2b : decide ((l0.length : Int) ≤ a1) = true := decide_eq_true c2
      go_enter Tryz.func74, Tryz.ntmps74
      go_wp2
      go_ret2
      exact ⟨_, rfl, hnil _ _, by first | exact Below.refl _ _ | exact pw_below_drewN (Below.refl _ _) _⟩
    · rw [if_neg c2] at h
      have c2b : decide ((l0.length : Int) ≤ a1) = false := decide_eq_false c2
      obtain ⟨r, e1, h2⟩ := Option.bind_eq_some_iff.mp h
      obtain ⟨rfl, rfl⟩ := Prod.mk.inj (Option.some.inj h2)
      go_enter Tryz.func74, Tryz.ntmps74
      go_wp2_with (first | (go_at_call 90; go_loud (refine (seal_Open.down_calls w (w.heap.size + 1) w.heap.size (w.heap.size + 2) k A0 c0 l0 a1 [] r _ (by omega) (by omega) (by omega) (Nat.le_refl _) (by omega) hr0 hc0 ⟨?i1, ?i2, ?i3, .slice none 0 0, ?i4, hnil _ _⟩ e1).mono ?_; (case i1 => exact ((Below.refl _ w).alloc (Nat.le_refl _) _).alloc (by simp) _); (case i2 => have hn_ := blk_new (w.alloc (.cells #[.slice none 0 0] 57)) (.cells #[.func (.func 90) #[] #[.pointer (some ⟨w.heap.size + 1, 0, none⟩), .pointer (some ⟨w.heap.size, 0, none⟩)]] 144); rw [World.size_alloc] at hn_; exact hn_); (case i3 => simp); (case i4 => exact blk_alloc (blk_new w _) _); rintro e w' ⟨⟨u, rfl⟩, hB1, hD1, hbase1, v1, hP1, hR1⟩; have hcP := blk_cell hP1 0)))
      go_ret2
      exact ⟨_, rfl, Kd.R_lower hR1 (by omega), hB1⟩
end

-- NOT PRINTED: function 52 (edition_Show)

-- NOT PRINTED: function 29 (plexuslaw48_show)

-- NOT PRINTED: function 9 (plexuslaw48_examples)

end Go.Proofs.YtjnpcpnjcieheaaGreat.P47
