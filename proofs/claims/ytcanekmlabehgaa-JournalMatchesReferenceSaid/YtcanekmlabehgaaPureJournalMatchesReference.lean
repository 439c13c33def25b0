/- The law that the row states of plexus/plexuslaw46.JournalMatchesReference: for every input the answer is true. Under no condition. -/
import Derived.Test.YtcanekmlabehgaaX46M
import Derived.Test.YtcanekmlabehgaaVC
import Derived.Test.YtcanekmlabehgaaQJr
namespace Go.Proofs.Ytcanekmlabehgaa.Pure
set_option linter.unusedVariables false
set_option linter.unusedSimpArgs false
open Go Go.RowKit Go.Proofs.Ytcanekmlabehgaa.P46 Go.Proofs.YtcanekmlabehgaaW.PrintWords Go.Proofs.YtcanekmlabehgaaW.PrintLast Go.Proofs.YtcanekmlabehgaaW.PrintMore Go.Proofs.YtcanekmlabehgaaQ
open Go.Vx (K)
/-- All that the two sides say of bytes and a record. -/
theorem jm_all {x r : List Int} (hb : ∀ y ∈ x, BY y) (hx : x.length ≤ 2000) (hr : r.length ≤ 100) : ∃ (L : List (List Int)) (t c : List Int) (e f : Int), (∀ s ∈ L, s.length ≤ 64) ∧ L.length ≤ 1000 ∧ Ev (fun k => X46.plexusref46_Read.m k x) (L, t, e) ∧ Ev (fun k => plexuslaw46_read.f k x) (L, t, e) ∧
    Ev (fun k => journal_Put.f k x r) (c, f) ∧ Ev (fun k => X46.plexusref46_Put.m k x r) (c, f) ∧ Ev (fun k => journal_Whole.f k x) (jn 0 L) ∧ Ev (fun k => X46.plexusref46_Whole.m k x) (jn 0 L) := by
  obtain ⟨h1, hf, hd, ht⟩ := par_all (x.length + 1) 0 x hb (Nat.lt_succ_self _)
  generalize (par (x.length + 1) 0 x).1 = L at h1 hf hd
  generalize (par (x.length + 1) 0 x).2 = t at h1 hd ht
  have hlen : (jn 0 L ++ t).length ≤ 2000 := by rw [← h1]; exact hx
  have hl2 := hlen
  rw [List.length_append] at hl2
  have hg := jn_ge L 0
  have base : ∀ c f, Ev (fun k => journal_Put.f k x r) (c, f) → Ev (fun k => X46.plexusref46_Put.m k x r) (c, f) → ∃ (L : List (List Int)) (t c : List Int) (e f : Int), (∀ s ∈ L, s.length ≤ 64) ∧ L.length ≤ 1000 ∧ Ev (fun k => X46.plexusref46_Read.m k x) (L, t, e) ∧ Ev (fun k => plexuslaw46_read.f k x) (L, t, e) ∧
    Ev (fun k => journal_Put.f k x r) (c, f) ∧ Ev (fun k => X46.plexusref46_Put.m k x r) (c, f) ∧ Ev (fun k => journal_Whole.f k x) (jn 0 L) ∧ Ev (fun k => X46.plexusref46_Whole.m k x) (jn 0 L) := fun c f p1 p2 => by
    refine ⟨L, t, c, if t = [] then 0 else 460, f, fun s hs => (hf s hs).1, by omega, ?_, ?_, p1, p2, ?_, ?_⟩
    · rw [h1]; exact rread hf hd ht (by omega)
    · rw [h1]; exact read_jn hf hd ht (by omega)
    · rw [h1]; exact whole_jn hf hd ht (by omega)
    · rw [h1]; exact rwhole hf hd ht (by omega)
  by_cases h64 : 64 < r.length
  · exact base _ _ (Put_long h64) (rput_long h64)
  · by_cases hn : t = []
    · subst hn
      rw [List.append_nil] at h1
      refine base (jn 0 (L ++ [r])) 0 ?_ ?_
      · rw [h1]; exact Put_jn hf (by omega) (by omega)
      · rw [h1]; exact rput hf (by omega) (by omega)
    · refine base [] 460 ?_ ?_
      · rw [h1]; exact Put_torn hf hd ht (by omega) hn (by omega)
      · rw [h1]; exact rput_torn hf hd ht (by omega) hn (by omega)
theorem jm_step {a0 v2 v8 x : List Int} {v3 v3' : Int} (hx : List.getD [a0, v2] (Int.toNat v3) [] = x) (h0 : 0 ≤ v3) (h2 : v3 < 2) (hw : IntKind.wrap IntKind.i64 (v3 + 1) = v3') (hb : ∀ y ∈ x, BY y) (hxl : x.length ≤ 2000) (hr : v8.length ≤ 100)
    (next : Ev2 (fun p q => X46.plexuslaw46_JournalMatchesReference.l1 p q a0 true v2 v8 v3') true) : Ev2 (fun p q => X46.plexuslaw46_JournalMatchesReference.l1 p q a0 true v2 v8 v3) true := by
  obtain ⟨L, t, c, e, f, hL, hLn, r1, r2, p1, p2, w1, w2⟩ := jm_all hb hxl hr
  refine Ev2.step (fun p q => X46.plexuslaw46_JournalMatchesReference.l1_succ p q _ _ _ _ _) ?_
  rw [hx, hw]
  refine ev2T (dT h2) (ev2T h0 (ev2T (by simpa using h2) ?_))
  refine Ev2.bind r1 (Ev2.bind r2 (Ev2.bind p1 (Ev2.bind p2 (ev2F (nF rfl) (ev2F (nF rfl) ?_)))))
  refine Ev2.bind (recs_f (l := L) (by omega) (fun s hs => by have := hL s hs; omega)) (ev2F (notF rfl) ?_)
  refine Ev2.bind (sev46 t) (ev2F (notF rfl) (Ev2.bind (sev46 c) (ev2F (notF rfl) ?_)))
  exact Ev2.bind w1 (Ev2.bind w2 (Ev2.bind (sev46 _) (ev2F (notF rfl) next)))
theorem jm_l1 {a0 v2 v8 : List Int} (h0 : ∀ y ∈ a0, BY y) (h1 : a0.length ≤ 2000) (g0 : ∀ y ∈ v2, BY y) (g1 : v2.length ≤ 2000) (hr : v8.length ≤ 100) : Ev2 (fun p q => X46.plexuslaw46_JournalMatchesReference.l1 p q a0 true v2 v8 0) true := by
  refine jm_step (x := a0) (v3' := 1) rfl (by decide) (by decide) (by decide) h0 h1 hr ?_
  refine jm_step (x := v2) (v3' := 2) rfl (by decide) (by decide) (by decide) g0 g1 hr ?_
  refine Ev2.step (fun p q => X46.plexuslaw46_JournalMatchesReference.l1_succ p q _ _ _ _ _) ?_
  exact ev2F (dF (by decide)) (Ev2.now _)
theorem jm_l0 {a0 v2 : List Int} {a2 : Int × Int × Int × Int} (h0 : ∀ y ∈ a0, BY y) (h1 : a0.length ≤ 2000) (g0 : ∀ y ∈ v2, BY y) (g1 : v2.length ≤ 2000) (n : Nat) (hn : n < 100) (hN : IntKind.wrap IntKind.i64 (Go.Vx.divF BinOp.rem IntKind.u16 a2.snd.snd.snd 100) = (n : Int)) :
    ∀ (m i : Nat) (v8 : List Int), n - i = m → i ≤ n → v8.length = i → Ev2 (fun p q => X46.plexuslaw46_JournalMatchesReference.l0 p q a0 a2 true v2 (i : Int) v8) true
  | 0, i, v8, hm, hi, hv => by
    refine Ev2.step (fun p q => X46.plexuslaw46_JournalMatchesReference.l0_succ p q _ _ _ _ _ _) ?_
    rw [hN]
    exact ev2F (dF (by omega)) (Ev2.of (jm_l1 h0 h1 g0 g1 (by omega)).diag)
  | m + 1, i, v8, hm, hi, hv => by
    refine Ev2.step (fun p q => X46.plexuslaw46_JournalMatchesReference.l0_succ p q _ _ _ _ _ _) ?_
    rw [hN]
    refine ev2T (dT (by omega)) (ev2T (by simp only [List.length_cons, List.length_nil]; omega) ?_)
    rw [wI (x := (i : Int) + 1) (by omega) (by omega), show (i : Int) + 1 = ((i + 1 : Nat) : Int) by omega]
    exact jm_l0 h0 h1 g0 g1 n hn hN m (i + 1) _ (by omega) (by omega) (by simp [hv])
theorem jm_j0 {a0 v2 : List Int} {a b c d : Int} (h0 : ∀ y ∈ a0, BY y) (h1 : a0.length ≤ 2000) (g0 : ∀ y ∈ v2, BY y) (g1 : v2.length ≤ 2000) (hd : (Lit.int .u16 d).wf = true) : Ev (fun q => X46.plexuslaw46_JournalMatchesReference.j0 q a0 (a, b, c, d) true v2) true := by
  obtain ⟨D, rfl, hD⟩ := u16_wf46 hd
  refine Ev.congr (fun q => X46.plexuslaw46_JournalMatchesReference.j0_eq q _ _ _ _) ?_
  have hlt := Nat.mod_lt D (show 100 > 0 by decide)
  have hN : IntKind.wrap IntKind.i64 (Go.Vx.divF BinOp.rem IntKind.u16 ((a, b, c, (D : Int)) : Int × Int × Int × Int).snd.snd.snd 100) = ((D % 100 : Nat) : Int) := by
    rw [show Go.Vx.divF BinOp.rem IntKind.u16 ((a, b, c, (D : Int)) : Int × Int × Int × Int).snd.snd.snd 100 = ((D % 100 : Nat) : Int) from rfl, wI (by omega) (by omega)]
  exact (jm_l0 h0 h1 g0 g1 (D % 100) hlt hN (D % 100) 0 [] rfl (by omega) rfl).diag
theorem by_wf {a : Int} (h : (Lit.int .u8 a).wf = true) : BY a := by
  obtain ⟨n, rfl, hn⟩ := u8_wf46 h
  exact ⟨by omega, by omega⟩
theorem by_u8 (z : Int) : BY (IntKind.wrap IntKind.u8 z) := by rw [IntKind.wrap_u8]; exact ⟨by omega, by omega⟩
theorem jm_main (j : List Int) (l : List (List Int)) (k0 k1 k2 k3 : Int) (hj' : ∀ y ∈ j, BY y) (hF : ∀ r ∈ l, ∀ y ∈ r, I64 y) (h0 : (Lit.int .u16 k0).wf = true) (h2 : (Lit.int .u16 k2).wf = true) (h3 : (Lit.int .u16 k3).wf = true) : ∃ k, X46.plexuslaw46_JournalMatchesReference.m k j l (k0, k1, k2, k3) = some true := by
  refine Ev.rounds (r := true) ?_
  refine Ev.congr (fun q => X46.plexuslaw46_JournalMatchesReference.m_eq q j l (k0, k1, k2, k3)) ?_
  refine Ev.bind exs46 (evJF (notF rfl) ?_)
  by_cases hjl : j.length > 2000
  · exact evJT (dT (by show ((j.length : Nat) : Int) > 2000; omega)) (Ev.now _)
  · refine evJF (dF (by show ¬ (((j.length : Nat) : Int) > 2000); omega)) ?_
    obtain ⟨b, hb1, hb2⟩ := small_f l
    refine Ev.bind hb1 ?_
    cases b with
    | false => exact evJT rfl (Ev.now _)
    | true =>
      obtain ⟨hn, hs⟩ := hb2 rfl
      have hz := jl_few l hs
      have hjn := jn_len l 0
      have hby := jn_by l 0
      refine evJF (notF rfl) (Ev.bind (rjournal l (by omega) (fun r hr => by have := hs r hr; omega) (by omega)) ?_)
      obtain ⟨C0, rfl, hC0⟩ := u16_wf46 h0
      obtain ⟨C2, rfl, hC2⟩ := u16_wf46 h2
      have hlen : (jn 0 l).length ≤ 2000 := by omega
      generalize jn 0 l = w at hby hlen
      by_cases hw : w.length = 0
      · refine evJF (dF (by omega)) ?_
        exact jm_j0 hj' (by omega) hby hlen h3
      · refine evJT (dT (by omega)) (evJF (by omega) (evJF (by omega) ?_))
        have e0 : Go.Vx.divF BinOp.rem IntKind.i64 (IntKind.wrap IntKind.i64 (((C0 : Int), k1, (C2 : Int), k3) : Int × Int × Int × Int).fst) ((w.length : Nat) : Int) = ((C0 % w.length : Nat) : Int) := by
          show Go.Vx.divF BinOp.rem IntKind.i64 (IntKind.wrap IntKind.i64 (C0 : Int)) _ = _
          rw [wI (by omega) (by omega), rem_tmod, tmod46]
        have hlt := Nat.mod_lt C0 (show w.length > 0 by omega)
        rw [e0, Int.toNat_natCast]
        refine evJT (by omega) (evJT (by omega) (evJT (by omega) (evJT (by omega) ?_)))
        have hX := by_u8 (↑(BitVec.toNat (BitVec.ofInt (IntKind.bits IntKind.u8) (List.getD w (C0 % w.length) (Int.ofNat 0)) ^^^ BitVec.ofInt (IntKind.bits IntKind.u8) (IntKind.wrap IntKind.u8 (((C0 : Int), k1, (C2 : Int), k3) : Int × Int × Int × Int).snd.fst))) : Int)
        generalize IntKind.wrap IntKind.u8 (↑(BitVec.toNat (BitVec.ofInt (IntKind.bits IntKind.u8) (List.getD w (C0 % w.length) (Int.ofNat 0)) ^^^ BitVec.ofInt (IntKind.bits IntKind.u8) (IntKind.wrap IntKind.u8 (((C0 : Int), k1, (C2 : Int), k3) : Int × Int × Int × Int).snd.fst))) : Int) = X at hX ⊢
        have hsl : (List.set w (C0 % w.length) X).length = w.length := List.length_set
        have hsb : ∀ y ∈ List.set w (C0 % w.length) X, BY y := fun y hy => by
          rcases List.mem_or_eq_of_mem_set hy with q | rfl
          · exact hby y q
          · exact hX
        generalize List.set w (C0 % w.length) X = u at hsl hsb ⊢
        have e2 : IntKind.wrap IntKind.i64 ((((u.length : Nat) : Int)) - Go.Vx.divF BinOp.rem IntKind.i64 (IntKind.wrap IntKind.i64 (((C0 : Int), k1, (C2 : Int), k3) : Int × Int × Int × Int).snd.snd.fst) ((u.length : Nat) : Int)) = ((u.length - C2 % u.length : Nat) : Int) := by
          have h9 := Nat.mod_lt C2 (show u.length > 0 by omega)
          show IntKind.wrap IntKind.i64 (_ - Go.Vx.divF BinOp.rem IntKind.i64 (IntKind.wrap IntKind.i64 (C2 : Int)) _) = _
          rw [wI (x := (C2 : Int)) (by omega) (by omega), rem_tmod, tmod46, wI (by omega) (by omega)]
          omega
        refine evJF (by omega) ?_
        rw [e2, Int.toNat_natCast]
        refine evJT (by omega) (evJT (by omega) ?_)
        exact jm_j0 hj' (by omega) (fun y hy => hsb y (List.mem_of_mem_take hy)) (by rw [List.length_take]; omega) h3
theorem JournalMatchesReference (x : (K.pair (K.slice (K.int IntKind.u8)) (K.pair (K.slice (K.slice (K.int IntKind.i64))) (K.pair (K.int IntKind.u16) (K.pair (K.int IntKind.u16) (K.pair (K.int IntKind.u16) (K.int IntKind.u16)))))).T)
    (hx : Vx.WF (K.pair (K.slice (K.int IntKind.u8)) (K.pair (K.slice (K.slice (K.int IntKind.i64))) (K.pair (K.int IntKind.u16) (K.pair (K.int IntKind.u16) (K.pair (K.int IntKind.u16) (K.int IntKind.u16)))))) x) : ∃ k, X46.plexuslaw46_JournalMatchesReference.m k x.1 x.2.1 x.2.2 = some true := by
  obtain ⟨j, l, k0, k1, k2, k3⟩ := x
  obtain ⟨⟨_, hj⟩, ⟨_, hl⟩, h0, h1, h2, h3⟩ := hx
  exact jm_main j l k0 k1 k2 k3 (fun y hy => by_wf (hj y hy)) (fun r hr y hy => i64_wf ((hl r hr).2 y hy)) h0 h2 h3
end Go.Proofs.Ytcanekmlabehgaa.Pure
