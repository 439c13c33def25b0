/- The law that the row states of plexus/plexuslaw46.JournalChanges: for every input the answer is true. Under no condition. -/
import Derived.Test.YtcanekmlabehgaaX46C
import Derived.Test.YtcanekmlabehgaaQJk
import Derived.Test.YtcanekmlabehgaaQV
namespace Go.Proofs.Ytcanekmlabehgaa.P46
open Go.RowKit Go.Proofs.YtcanekmlabehgaaW.PrintWords
/-- THE ONE PURE STATEMENT of plexuslaw46_JournalChanges. -/
def plexuslaw46_JournalChanges.Pure : Prop := ∀ (l0 : List (List Int)) (a1 : Int) (a2 : Int), (l0.length * 24 ≤ 140737488351232 ∧ l0.length ≤ maxLen ∧ ∀ x_ ∈ l0, (x_.length * 8 ≤ 140737488351232 ∧ x_.length ≤ maxLen ∧ ∀ y_ ∈ x_, (Lit.int .i64 y_).wf = true)) → (Lit.int .u16 a1).wf = true → (Lit.int .u8 a2).wf = true → ∃ k, X46.plexuslaw46_JournalChanges.m k l0 a1 a2 = some true
theorem plexuslaw46_JournalChanges.walk (P : plexuslaw46_JournalChanges.Pure) (w : World) (A0 : Option Addr) (c0 : Nat) (l0 : List (List Int)) (hr0 : Kd.C (Kd.slice 3 (Kd.int .i64)) w A0 l0.length l0) (hc0 : l0.length ≤ c0) (w0 : (l0.length * 24 ≤ 140737488351232 ∧ l0.length ≤ maxLen ∧ ∀ x_ ∈ l0, (x_.length * 8 ≤ 140737488351232 ∧ x_.length ≤ maxLen ∧ ∀ y_ ∈ x_, (Lit.int .i64 y_).wf = true))) (a1 : Int) (w1 : (Lit.int .u16 a1).wf = true) (a2 : Int) (w2 : (Lit.int .u8 a2).wf = true) :
    Calls Try.prog 7 #[.slice A0 l0.length c0, .int .u16 a1, .int .u8 a2] w fun e w' => e = .returned (.bool true) ∧ Below w.heap.size w w' := by
  obtain ⟨k, h⟩ := P l0 a1 a2 w0 w1 w2
  have hR : Vx.Rd w (fun b => b < w.heap.size) (.pair V46.kR (.pair (.int .u16) (.int .u8))) (l0, a1, a2) [.slice A0 l0.length c0, .int .u16 a1, .int .u8 a2] :=
    ⟨[.slice A0 l0.length c0], [.int .u16 a1, .int .u8 a2], rfl, Vx.Rd.of_kd (k := V46.kR) rfl ⟨A0, c0, rfl, hc0, hr0⟩, [.int .u16 a1], [.int .u8 a2], rfl, rfl, rfl⟩
  have e : X46.plexuslaw46_JournalChanges.sp k = ⟨[none, none, none], .pair V46.kR (.pair (.int .u16) (.int .u8)), [.im .bool], .one none, false, fun (x : List (List Int) × Int × Int) => X46.plexuslaw46_JournalChanges.m k x.1 x.2.1 x.2.2⟩ := by kernel_rfl
  have q := @Vx.Good.law Try.prog 7 (X46.plexuslaw46_JournalChanges.sp k) [none, none, none] (.pair V46.kR (.pair (.int .u16) (.int .u8))) false (fun (x : List (List Int) × Int × Int) => X46.plexuslaw46_JournalChanges.m k x.1 x.2.1 x.2.2) (X46.plexuslaw46_JournalChanges.good k) e (l0, a1, a2)
  have q2 := q h (w := w) (cells := [.slice A0 l0.length c0, .int .u16 a1, .int .u8 a2])
  have q3 := q2 hR
  exact q3
end Go.Proofs.Ytcanekmlabehgaa.P46
namespace Go.Proofs.Ytcanekmlabehgaa.Pure
set_option linter.unusedVariables false
set_option linter.unusedSimpArgs false
open Go.RowKit Go.Proofs.Ytcanekmlabehgaa.P46 Go.Proofs.YtcanekmlabehgaaW.PrintWords Go.Proofs.YtcanekmlabehgaaW.PrintLast Go.Proofs.YtcanekmlabehgaaW.PrintMore Go.Proofs.YtcanekmlabehgaaQ
theorem xor8 {a b : Nat} (ha : a < 2 ^ 8) (hb : b < 2 ^ 8) : Go.bits .xor .u8 (a : Int) (b : Int) = ((a ^^^ b : Nat) : Int) := by
  unfold Go.bits
  have ha' : a % 2 ^ 8 = a := Nat.mod_eq_of_lt ha
  have hb' : b % 2 ^ 8 = b := Nat.mod_eq_of_lt hb
  show IntKind.u8.wrap ((BitVec.ofInt IntKind.u8.bits (a : Int) ^^^ BitVec.ofInt IntKind.u8.bits (b : Int)).toNat : Int) = _
  have e : (BitVec.ofInt IntKind.u8.bits (a : Int) ^^^ BitVec.ofInt IntKind.u8.bits (b : Int)).toNat = a ^^^ b := by
    rw [BitVec.toNat_xor, BitVec.ofInt_natCast, BitVec.ofInt_natCast, BitVec.toNat_ofNat, BitVec.toNat_ofNat]
    rw [show (2 : Nat) ^ IntKind.u8.bits = 2 ^ 8 from rfl, ha', hb']
  rw [e, IntKind.wrap_u8]
  have := Nat.xor_lt_two_pow ha hb
  omega
theorem xor_byte {b : Int} {d : Nat} (hb : BY b) (hd : d < 256) (h0 : d ≠ 0) : BY (Go.bits .xor .u8 b (d : Int)) ∧ Go.bits .xor .u8 b (d : Int) ≠ b := by
  obtain ⟨B, rfl⟩ : ∃ B : Nat, b = B := ⟨b.toNat, by have := hb.1; omega⟩
  have hB : B < 256 := by have := hb.2; omega
  rw [xor8 (by omega) (by omega)]
  have h1 : B ^^^ d < 2 ^ 8 := Nat.xor_lt_two_pow (by omega) (by omega)
  refine ⟨⟨by omega, by omega⟩, fun e => h0 ?_⟩
  have h2 : B ^^^ d = B := by omega
  have h3 := congrArg (fun z => B ^^^ z) h2
  simp only [← Nat.xor_assoc, Nat.xor_self, Nat.zero_xor] at h3
  exact h3
theorem changes_j0 (l : List (List Int)) (hf : Fit l) (hn : l.length ≤ 12) (hs : ∀ r ∈ l, r.length ≤ 12) (d : Nat) (hd : d < 256) (hd0 : d ≠ 0) (a1 : Int) (i k : Nat) (hii : Go.Vx.divF BinOp.rem IntKind.i64 (IntKind.wrap IntKind.i64 a1) ((jn 0 l).length : Int) = (i : Int)) (hk : k < l.length) (h0 : jl (l.take k) ≤ i) (h1 : i < jl (l.take (k + 1))) :
    Ev (fun q => X46.plexuslaw46_JournalChanges.j0 q l a1 (d : Int) true (jn 0 l, ends l l.length) (k : Int) ((jl (l.take k) : Nat) : Int)) true := by
  have hz := jl_few l hs
  have hjl := jn_len l 0
  have hjt := jn_len (l.take k) 0
  have hft := fit_take hf k
  have hle := jl_take l (k + 1)
  have hib : i < (jn 0 l).length := by omega
  obtain ⟨x1, x2⟩ := xor_byte (b := (jn 0 l).getD i 0) (jn_by l 0 _ (getD_mem hib)) hd hd0
  generalize hx : Go.bits .xor .u8 ((jn 0 l).getD i 0) (d : Int) = x at x1 x2
  have hr := hf _ (getD_mem (d := []) hk)
  have hsp := jn_split l k
  have hdr : l.drop k = l.getD k [] :: l.drop (k + 1) := by rw [List.drop_eq_getElem_cons hk]; simp [List.getD, hk]
  have hsp2 : jn 0 l = jn 0 (l.take k) ++ (enc (lk 0 (l.take k)) (l.getD k []) ++ jn (tagN (lk 0 (l.take k)) (l.getD k [])) (l.drop (k + 1))) := by rw [hsp, hdr]; rfl
  have hkk := lk_lt (l.take k) 0 (by decide)
  have hst : jl (l.take (k + 1)) = jl (l.take k) + (8 * (l.getD k []).length + 24) := by
    rw [take_succ46 hk, jl_app]; simp only [jl]
  have hel := enc_len (lk 0 (l.take k)) (l.getD k [])
  have hXb := jn_by (l.drop (k + 1)) (tagN (lk 0 (l.take k)) (l.getD k []))
  generalize jn (tagN (lk 0 (l.take k)) (l.getD k [])) (l.drop (k + 1)) = X at hsp2 hXb
  have hgx : (enc (lk 0 (l.take k)) (l.getD k []) ++ X).getD (i - jl (l.take k)) 0 = (jn 0 l).getD i 0 := by
    rw [hsp2]
    simp only [List.getD_eq_getElem?_getD]
    rw [List.getElem?_append_right (l₁ := jn 0 (l.take k)) (by omega), hjt]
  have hset : (jn 0 l).set i x = jn 0 (l.take k) ++ (enc (lk 0 (l.take k)) (l.getD k []) ++ X).set (i - jl (l.take k)) x := by
    rw [hsp2, List.set_append_right _ _ (by omega), hjt]
  have htd := dec_set hkk hr.1 hr.2 hXb (p := i - jl (l.take k)) (by omega) x1 (by rw [hgx]; exact x2)
  have htb := set_by (app_by (enc_by (lk 0 (l.take k)) (l.getD k [])) hXb) x1 (i - jl (l.take k))
  have htl : ((enc (lk 0 (l.take k)) (l.getD k []) ++ X).set (i - jl (l.take k)) x).length = (enc (lk 0 (l.take k)) (l.getD k []) ++ X).length := List.length_set
  have hsum : (jn 0 l).length = (jn 0 (l.take k)).length + (enc (lk 0 (l.take k)) (l.getD k []) ++ X).length := by rw [hsp2, List.length_append]
  generalize (enc (lk 0 (l.take k)) (l.getD k []) ++ X).set (i - jl (l.take k)) x = t at hset htd htb htl
  have htn : t ≠ [] := fun e => by rw [e, List.length_append] at htl; simp only [List.length_nil] at htl; omega
  have hsz : (jn 0 (l.take k) ++ t).length ≤ 100000 := by rw [List.length_append]; omega
  have hA := read_jn hft htd htb hsz
  have hB := whole_jn hft htd htb hsz
  have hP := Put_torn (r := []) hft htd htb hsz htn (by simp)
  rw [if_neg htn] at hA
  have hR : Ev (fun q => plexusref46_Records.f q (l.take k) (l.take k)) true := recs_f (by rw [List.length_take]; omega) (fun r hr => by have := hs r (List.mem_of_mem_take hr); omega)
  have e2 : (jn 0 (l.take k) ++ t).drop (jl (l.take k)) = t := by rw [← hjt]; exact List.drop_left
  have e3 : (jn 0 l).take (jl (l.take k)) = jn 0 (l.take k) := by rw [hsp, ← hjt]; exact List.take_left
  have hset' : List.set (jn 0 l) i (IntKind.wrap IntKind.u8 (↑(BitVec.toNat (BitVec.ofInt (IntKind.bits IntKind.u8) (List.getD (jn 0 l) i (Int.ofNat 0)) ^^^ BitVec.ofInt (IntKind.bits IntKind.u8) (d : Int))) : Int)) = jn 0 (l.take k) ++ t := by
    rw [← hset, ← hx]; rfl
  refine Ev.congr (fun q => X46.plexuslaw46_JournalChanges.j0_eq q l a1 (d : Int) true _ _ _) ?_
  refine evJT (by show (0 + (jn 0 l).length) * 1 ≤ 140737488355328; omega) ?_
  simp only [hii, Int.toNat_natCast]
  rw [hset']
  refine evJT (by omega) (evJT (by omega) (evJT (by omega) (evJT (by omega) ?_)))
  refine Ev.bind hA (Ev.bind hP (evJT rfl (evJT (by omega) (evJT (by omega) ?_))))
  refine Ev.bind hR (evJT rfl (evJT (by omega) (evJT (by rw [List.length_append]; omega) ?_)))
  rw [e2, e3]
  refine Ev.bind (sev46 _) (evJT rfl ?_)
  refine Ev.bind hB (evJT (by omega) (evJT (by omega) ?_))
  exact Ev.bind (sev46 _) (evJT rfl (evJT rfl (Ev.now _)))
theorem changes_l0 (l : List (List Int)) (hf : Fit l) (hn : l.length ≤ 12) (hs : ∀ r ∈ l, r.length ≤ 12) (d : Nat) (hd : d < 256) (hd0 : d ≠ 0) (a1 : Int) (i : Nat) (hii : Go.Vx.divF BinOp.rem IntKind.i64 (IntKind.wrap IntKind.i64 a1) ((jn 0 l).length : Int) = (i : Int)) (hle : i < jl l) : ∀ (m k : Nat), l.length - k = m → k ≤ l.length → jl (l.take k) ≤ i →
    Ev2 (fun p q => X46.plexuslaw46_JournalChanges.l0 p q l a1 (d : Int) true (jn 0 l, ends l l.length) (k : Int) ((jl (l.take k) : Nat) : Int)) true
  | 0, k, hm, hk, h0 => by
    rw [List.take_of_length_le (by omega)] at h0
    omega
  | m + 1, k, hm, hk, h0 => by
    have hlt : k < l.length := by omega
    refine Ev2.step (fun p q => X46.plexuslaw46_JournalChanges.l0_succ p q l a1 (d : Int) true _ _ _) ?_
    refine ev2T (dT (by rw [ends_len]; omega)) (ev2T (by omega) (ev2T (by rw [ends_len]; omega) ?_))
    have hr : List.getD (ends l l.length) (Int.toNat (k : Int)) (Int.ofNat 0) = ((jl (l.take (k + 1)) : Nat) : Int) := ends_at l hlt
    simp only [hr, hii]
    by_cases h1 : jl (l.take (k + 1)) ≤ i
    · refine ev2T (dT (by omega)) (ev2T (by omega) (ev2T (by rw [ends_len]; omega) ?_))
      rw [wrap_i64', w64 (x := (k : Int) + 1) (by omega) (by omega), show (k : Int) + 1 = ((k + 1 : Nat) : Int) by omega]
      exact changes_l0 l hf hn hs d hd hd0 a1 i hii hle m (k + 1) (by omega) (by omega) h1
    · exact ev2F (dF (by omega)) (Ev2.of (changes_j0 l hf hn hs d hd hd0 a1 i k hii hlt h0 (by omega)))
theorem JournalChanges : plexuslaw46_JournalChanges.Pure := by
  intro l c d hl hc hd
  obtain ⟨C, rfl, hC⟩ := u16_wf46 hc
  obtain ⟨D, rfl, hD⟩ := u8_wf46 hd
  have hF : ∀ r ∈ l, ∀ x ∈ r, I64 x := fun r hr x hx => i64_wf ((hl.2.2 r hr).2.2 x hx)
  refine Ev.rounds (r := true) ?_
  refine Ev.congr (fun q => X46.plexuslaw46_JournalChanges.m_eq q l (C : Int) (D : Int)) ?_
  refine Ev.bind exs46 (evJF (notF rfl) ?_)
  obtain ⟨b, hb1, hb2⟩ := small_f l
  refine Ev.bind hb1 ?_
  cases b with
  | false => exact evJT rfl (Ev.now _)
  | true =>
    obtain ⟨hn, hs⟩ := hb2 rfl
    have hf : Fit l := fun r hr => ⟨by have := hs r hr; omega, hF r hr⟩
    have hz := jl_few l hs
    have hj := jn_len l 0
    refine evJF (notF rfl) (Ev.bind (made_f hf (by omega) hs) ?_)
    by_cases h0 : (jn 0 l).length = 0
    · exact evJT (bT (by show ((jn 0 l).length : Int) = 0; omega)) (Ev.now _)
    · refine evJF (bF (by show ((jn 0 l).length : Int) ≠ 0; omega)) ?_
      by_cases hD0 : D = 0
      · subst hD0
        exact evJT rfl (Ev.now _)
      · refine evJF (bF (by omega)) (evJF (by show ¬ (((jn 0 l).length : Int) = 0); omega) ?_)
        have hlt := Nat.mod_lt C (show (jn 0 l).length > 0 by omega)
        have hii : Go.Vx.divF BinOp.rem IntKind.i64 (IntKind.wrap IntKind.i64 (C : Int)) ((jn 0 l).length : Int) = ((C % (jn 0 l).length : Nat) : Int) := by
          rw [wrap_i64', w64 (x := (C : Int)) (by omega) (by omega), rem_tmod, tmod46]
        exact (changes_l0 l hf hn hs D hD hD0 (C : Int) (C % (jn 0 l).length) hii (by omega) l.length 0 rfl (by omega) (by simp [jl])).diag
end Go.Proofs.Ytcanekmlabehgaa.Pure
