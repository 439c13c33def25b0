/- What the reference of journal computes: the same bytes, the same records. -/
import Derived.Test.YtcanekmlabehgaaX46R
import Derived.Test.YtcanekmlabehgaaQJh
import Derived.Test.YtcanekmlabehgaaQV
namespace Go.Proofs.YtcanekmlabehgaaQ
set_option linter.unusedVariables false
set_option linter.unusedSimpArgs false
open Go.RowKit Go.Proofs.Ytcanekmlabehgaa Go.Proofs.Ytcanekmlabehgaa.P46 Go.Proofs.YtcanekmlabehgaaW.PrintWords Go.Proofs.YtcanekmlabehgaaW.PrintLast Go.Proofs.YtcanekmlabehgaaW.PrintMore
theorem wI {x : Int} (h0 : -9223372036854775808 ≤ x) (h1 : x < 9223372036854775808) : IntKind.wrap IntKind.i64 x = x := by rw [wrap_i64', w64 h0 h1]
theorem r3step (k : Nat) {h w : Nat} (hh : h < 2 ^ 64) (hw : w < 2 ^ 64) : X46.plexusref03_Step.m k (h : Int) (w : Int) = some ((stepN h w : Nat) : Int) := by
  rw [X46.plexusref03_Step.m_eq]
  have ht : (h ^^^ w) * 11400714819323198485 % 2 ^ 64 < 2 ^ 64 := Nat.mod_lt _ (by decide)
  have e1 : IntKind.wrap IntKind.u64 (IntKind.wrap IntKind.u64 (↑(BitVec.toNat (BitVec.ofInt (IntKind.bits IntKind.u64) (h : Int) ^^^ BitVec.ofInt (IntKind.bits IntKind.u64) (w : Int))) : Int) * 11400714819323198485) = (((h ^^^ w) * 11400714819323198485 % 2 ^ 64 : Nat) : Int) := by
    show IntKind.u64.wrap (Go.bits .xor .u64 (h : Int) (w : Int) * 11400714819323198485) = _
    rw [xor64 hh hw, show ((11400714819323198485 : Int)) = ((11400714819323198485 : Nat) : Int) from rfl, mul64]
  rw [e1]
  have key : ∀ t : Nat, t < 2 ^ 64 → (some (IntKind.wrap IntKind.u64 (IntKind.wrap IntKind.u64 (↑(BitVec.toNat (BitVec.ofInt (IntKind.bits IntKind.u64) (t : Int) ^^^ BitVec.ofInt (IntKind.bits IntKind.u64) (Go.Vx.shF BinOp.shr IntKind.u64 (t : Int) 29))) : Int) * 13787848793156543929)) : Option Int) = some ((s29 t * 13787848793156543929 % 2 ^ 64 : Nat) : Int) := by
    intro t ht
    have e2 : Go.Vx.shF BinOp.shr IntKind.u64 (t : Int) 29 = ((t >>> 29 : Nat) : Int) := by
      show Int.fdiv (t : Int) (2 ^ min (29 : Int).toNat IntKind.u64.bits) = _
      rw [show min (29 : Int).toNat IntKind.u64.bits = 29 from rfl, Int.fdiv_eq_ediv_of_nonneg _ (by decide), Nat.shiftRight_eq_div_pow]
      omega
    rw [e2]
    show some (IntKind.u64.wrap (Go.bits .xor .u64 (t : Int) ((t >>> 29 : Nat) : Int) * 13787848793156543929)) = _
    rw [xor64 ht (sr_lt ht 29), show ((13787848793156543929 : Int)) = ((13787848793156543929 : Nat) : Int) from rfl, mul64]
    rfl
  exact key _ ht
theorem r3words_l (l : List Int) (hl : l.length ≤ 1000000) : ∀ (m i d : Nat), l.length - i = m → d < 2 ^ 64 → Ev2 (fun p q => X46.plexusref03_Words.l0 p q l (d : Int) (i : Int)) ((stepN (wfold d (l.drop i)) (l.length % 2 ^ 64) : Nat) : Int)
  | 0, i, d, hm, hd => by
    refine Ev2.step (fun p q => X46.plexusref03_Words.l0_succ p q l _ _) ?_
    refine ev2F (dF (by omega)) ?_
    rw [List.drop_of_length_le (by omega)]
    have e : IntKind.wrap IntKind.u64 ((l.length : Nat) : Int) = ((l.length % 2 ^ 64 : Nat) : Int) := by rw [wu64 (by omega) (by omega)]; omega
    rw [e]
    refine Ev2.congr (f := fun _ _ => some ((stepN d (l.length % 2 ^ 64) : Nat) : Int)) (fun p q => ?_) (Ev2.now _)
    rw [r3step q hd (Nat.mod_lt _ (by decide))]; rfl
  | m + 1, i, d, hm, hd => by
    have hi : i < l.length := by omega
    refine Ev2.step (fun p q => X46.plexusref03_Words.l0_succ p q l _ _) ?_
    refine ev2T (dT (by omega)) (ev2T (by omega) (ev2T (by omega) ?_))
    have e : IntKind.wrap IntKind.u64 (List.getD l (Int.toNat (i : Int)) (Int.ofNat 0)) = ((u64 l[i] : Nat) : Int) := by
      rw [u64_cast, Int.toNat_natCast]
      simp [List.getD, hi]
    rw [e, wI (x := (i : Int) + 1) (by omega) (by omega), show (i : Int) + 1 = ((i + 1 : Nat) : Int) by omega]
    have ih := r3words_l l hl m (i + 1) (stepN d (u64 l[i])) (by omega) (stepN_lt _ _)
    rw [List.drop_eq_getElem_cons hi]
    refine Ev2.congr (f := fun p q => X46.plexusref03_Words.l0 p q l ((stepN d (u64 l[i]) : Nat) : Int) ((i + 1 : Nat) : Int)) (fun p q => ?_) ih
    rw [r3step q hd (u64_lt _)]; rfl
theorem r3words (l : List Int) (hl : l.length ≤ 1000000) : Ev (fun k => X46.plexusref03_Words.m k l) ((wordsN l : Nat) : Int) := by
  refine Ev.congr (fun k => X46.plexusref03_Words.m_eq k l) ?_
  have := (r3words_l l hl l.length 0 123610861172083 rfl (by decide)).diag
  simpa [wordsN] using this
theorem r3tag {key : Nat} (hk : key < 2 ^ 64) (l : List Int) (hl : l.length ≤ 1000000) : Ev (fun k => X46.plexusref03_Tag.m k (key : Int) l) ((tagN key l : Nat) : Int) := by
  refine Ev.congr (fun k => X46.plexusref03_Tag.m_eq k _ l) ?_
  refine Ev.bind (r3words l hl) ?_
  refine Ev.congr (f := fun _ => some ((tagN key l : Nat) : Int)) (fun k => ?_) (Ev.now _)
  rw [r3step k hk (wordsN_lt l)]; rfl
theorem shF_shr (k : IntKind) (x y : Int) : Go.Vx.shF BinOp.shr k x y = shr k x y := Int.fdiv_eq_ediv_of_nonneg _ (Int.le_of_lt (Int.pow_pos (by decide)))
theorem rword_l (v : Nat) (hv : v < 2 ^ 64) : ∀ (m i : Nat), 8 - i = m → i ≤ 8 → Ev2 (fun p q => X46.plexusref46_word.l0 p q (v : Int) (i : Int) ((wb v).take i)) (wb v)
  | 0, i, hm, hi => by
    refine Ev2.step (fun p q => X46.plexusref46_word.l0_succ p q _ _ _) ?_
    refine ev2F (dF (by omega)) ?_
    rw [List.take_of_length_le (by rw [wb_len]; omega)]
    exact Ev2.now _
  | m + 1, i, hm, hi => by
    have hi8 : i < 8 := by omega
    refine Ev2.step (fun p q => X46.plexusref46_word.l0_succ p q _ _ _) ?_
    have e0 : IntKind.wrap IntKind.u64 (IntKind.wrap IntKind.i64 (8 * (i : Int))) = wrap64 (8 * (i : Int)) := by
      rw [wrap_i64', wu64 (by rw [w64 (by omega) (by omega)]; omega) (by rw [w64 (by omega) (by omega)]; omega)]
    have e1 : IntKind.wrap IntKind.u8 (Go.Vx.shF BinOp.shr IntKind.u64 (v : Int) (wrap64 (8 * (i : Int)))) = ((v / 2 ^ (8 * i) % 256 : Nat) : Int) := by
      rw [IntKind.wrap_u8, shF_shr]
      exact shr_byte hi8
    have e2 : (wb v)[i]'(by rw [wb_len]; exact hi8) = ((v / 2 ^ (8 * i) % 256 : Nat) : Int) := by simp [wb]
    refine ev2T (dT (by omega)) (ev2F (by rw [e0, w64 (by omega) (by omega)]; omega) (ev2T (by rw [List.length_take, wb_len]; simp only [List.length_cons, List.length_nil]; omega) ?_))
    rw [e0, e1, ← e2, ← List.take_succ_eq_append_getElem (by rw [wb_len]; exact hi8), wI (x := (i : Int) + 1) (by omega) (by omega), show (i : Int) + 1 = ((i + 1 : Nat) : Int) by omega]
    exact rword_l v hv m (i + 1) (by omega) (by omega)
theorem rword {v : Nat} (hv : v < 2 ^ 64) : Ev (fun k => X46.plexusref46_word.m k (v : Int)) (wb v) := by
  refine Ev.congr (fun k => X46.plexusref46_word.m_eq k _) ?_
  exact (rword_l v hv 8 0 rfl (by omega)).diag
theorem rbytes_l {key : Nat} (hk : key < 2 ^ 64) (r : List Int) (hr : r.length ≤ 10000) : ∀ (m i : Nat) (acc : List Int), r.length - i = m → acc.length + 8 * m ≤ 1000000 → Ev2 (fun p q => X46.plexusref46_bytes.l0 p q (key : Int) r (i : Int) acc) (acc ++ (wbs ((r.drop i).map u64) ++ wbs [tagN key r]))
  | 0, i, acc, hm, ha => by
    refine Ev2.step (fun p q => X46.plexusref46_bytes.l0_succ p q _ _ _ _) ?_
    refine ev2F (dF (by omega)) (Ev2.bind (r3tag hk r (by omega)) (Ev2.bind (rword (tagN_lt _ _)) (ev2T (by rw [wb_len]; omega) ?_)))
    rw [List.drop_of_length_le (by omega)]
    show Ev2 (fun _ _ => some (acc ++ wb (tagN key r))) _
    rw [show acc ++ (wbs (([] : List Int).map u64) ++ wbs [tagN key r]) = acc ++ wb (tagN key r) by rw [wbs_one]; rfl]
    exact Ev2.now _
  | m + 1, i, acc, hm, ha => by
    have hi : i < r.length := by omega
    refine Ev2.step (fun p q => X46.plexusref46_bytes.l0_succ p q _ _ _ _) ?_
    have e : IntKind.wrap IntKind.u64 (List.getD r (Int.toNat (i : Int)) (Int.ofNat 0)) = ((u64 r[i] : Nat) : Int) := by
      rw [u64_cast, Int.toNat_natCast]
      simp [List.getD, hi]
    refine ev2T (dT (by omega)) (ev2T (by omega) (ev2T (by omega) ?_))
    rw [e]
    refine Ev2.bind (rword (u64_lt _)) (ev2T (by rw [wb_len]; omega) ?_)
    rw [wI (x := (i : Int) + 1) (by omega) (by omega), show (i : Int) + 1 = ((i + 1 : Nat) : Int) by omega]
    have ih := rbytes_l hk r hr m (i + 1) (acc ++ wb (u64 r[i])) (by omega) (by rw [List.length_append, wb_len]; omega)
    rw [List.drop_eq_getElem_cons hi, List.map_cons, wbs_cons]
    rw [List.append_assoc] at ih
    rw [List.append_assoc]
    exact ih
theorem rbytes {key : Nat} (hk : key < 2 ^ 64) (r : List Int) (hr : r.length ≤ 10000) : Ev (fun k => X46.plexusref46_bytes.m k (key : Int) r) (enc key r) := by
  refine Ev.congr (fun k => X46.plexusref46_bytes.m_eq k _ _) ?_
  have e : IntKind.wrap IntKind.u64 ((r.length : Nat) : Int) = ((r.length : Nat) : Int) := wu64 (by omega) (by omega)
  rw [e]
  refine Ev.bind (rword (by omega)) (Ev.bind (r3words _ (by simp)) (Ev.bind (rword (wordsN_lt _)) (evJT (by rw [wb_len, wb_len]; omega) ?_)))
  have := (rbytes_l hk r hr r.length 0 (wb r.length ++ wb (wordsN [(r.length : Int)])) rfl (by rw [List.length_append, wb_len, wb_len]; omega)).diag
  rw [List.drop_zero] at this
  have e2 : enc key r = wb r.length ++ wb (wordsN [(r.length : Int)]) ++ (wbs (r.map u64) ++ wbs [tagN key r]) := by
    unfold enc
    rw [wbs_cons, wbs_one]
  rw [e2]
  exact this
theorem rjournal_l (l : List (List Int)) (hl : l.length ≤ 100000) (hs : ∀ r ∈ l, r.length ≤ 10000) : ∀ (m i key : Nat) (acc : List Int), l.length - i = m → key < 2 ^ 64 → acc.length + jl (l.drop i) ≤ 1000000 → Ev2 (fun p q => X46.plexusref46_Journal.l0 p q l (key : Int) (i : Int) acc) (acc ++ jn key (l.drop i))
  | 0, i, key, acc, hm, hk, ha => by
    refine Ev2.step (fun p q => X46.plexusref46_Journal.l0_succ p q _ _ _ _) ?_
    refine ev2F (dF (by omega)) ?_
    rw [List.drop_of_length_le (by omega)]
    show Ev2 (fun _ _ => some acc) (acc ++ [])
    rw [List.append_nil]
    exact Ev2.now _
  | m + 1, i, key, acc, hm, hk, ha => by
    have hi : i < l.length := by omega
    have hd := List.drop_eq_getElem_cons hi
    have hrl := hs _ (List.getElem_mem hi)
    have e : List.getD l (Int.toNat (i : Int)) [] = l[i] := by rw [Int.toNat_natCast]; simp [List.getD, hi]
    rw [hd] at ha ⊢
    simp only [jl] at ha
    refine Ev2.step (fun p q => X46.plexusref46_Journal.l0_succ p q _ _ _ _) ?_
    refine ev2T (dT (by omega)) (ev2T (by omega) (ev2T (by omega) ?_))
    rw [e]
    refine Ev2.bind (rbytes hk _ hrl) (ev2T (by rw [enc_len]; omega) (ev2T (by omega) (ev2T (by omega) (Ev2.bind (r3tag hk _ (by omega)) ?_))))
    rw [wI (x := (i : Int) + 1) (by omega) (by omega), show (i : Int) + 1 = ((i + 1 : Nat) : Int) by omega]
    have ih := rjournal_l l hl hs m (i + 1) (tagN key l[i]) (acc ++ enc key l[i]) (by omega) (tagN_lt _ _) (by rw [List.length_append, enc_len]; omega)
    rw [List.append_assoc] at ih
    exact ih
theorem rjournal (l : List (List Int)) (hl : l.length ≤ 100000) (hs : ∀ r ∈ l, r.length ≤ 10000) (hz : jl l ≤ 1000000) : Ev (fun k => X46.plexusref46_Journal.m k l) (jn 0 l) := by
  refine Ev.congr (fun k => X46.plexusref46_Journal.m_eq k _) ?_
  have := (rjournal_l l hl hs l.length 0 0 [] rfl (by decide) (by simpa using hz)).diag
  simpa using this
theorem rat_l (j : List Int) (hb : ∀ x ∈ j, BY x) (i : Nat) (hi : i + 8 ≤ j.length) (hj : j.length ≤ 1000000) : ∀ (c : Nat), c ≤ 8 → Ev2 (fun p q => X46.plexusref46_at.l0 p q j (i : Int) ((bw ((j.drop (i + c)).take (8 - c)) : Nat) : Int) ((c : Int) - 1)) ((bw ((j.drop i).take 8) : Nat) : Int)
  | 0, hc => by
    refine Ev2.step (fun p q => X46.plexusref46_at.l0_succ p q _ _ _ _) ?_
    exact ev2F (dF (by omega)) (Ev2.now _)
  | c + 1, hc => by
    refine Ev2.step (fun p q => X46.plexusref46_at.l0_succ p q _ _ _ _) ?_
    have e0 : IntKind.wrap IntKind.i64 ((i : Int) + (((c + 1 : Nat) : Int) - 1)) = ((i + c : Nat) : Int) := by rw [wI (by omega) (by omega)]; omega
    have e1 : IntKind.wrap IntKind.i64 (((c + 1 : Nat) : Int) - 1 - 1) = ((c : Int) - 1) := by rw [wI (by omega) (by omega)]; omega
    refine ev2T (dT (by omega)) ?_
    rw [e0, e1]
    refine ev2T (by omega) (ev2T (by omega) ?_)
    have hlt : i + c < j.length := by omega
    have hB := hb _ (List.getElem_mem hlt)
    obtain ⟨b, hbe⟩ : ∃ b : Nat, j[i + c] = (b : Int) := ⟨j[i + c].toNat, by have := hB.1; omega⟩
    have hb2 : b < 256 := by have := hB.2; omega
    have e2 : IntKind.wrap IntKind.u64 (List.getD j (Int.toNat ((i + c : Nat) : Int)) (Int.ofNat 0)) = ((b : Nat) : Int) := by
      rw [Int.toNat_natCast, show List.getD j (i + c) (Int.ofNat 0) = (b : Int) by simp [List.getD, hlt, hbe]]
      exact wu64 (by omega) (by omega)
    rw [e2]
    obtain ⟨a, ha⟩ : ∃ a, bw ((j.drop (i + (c + 1))).take (8 - (c + 1))) = a := ⟨_, rfl⟩
    have hlen : ((j.drop (i + (c + 1))).take (8 - (c + 1))).length = 7 - c := by rw [List.length_take, List.length_drop]; omega
    have hal : a < 2 ^ 56 := by
      have h1 := bw_lt ((j.drop (i + (c + 1))).take (8 - (c + 1))) (take_by (drop_by hb _) _)
      rw [ha, hlen] at h1
      exact Nat.lt_of_lt_of_le h1 (Nat.pow_le_pow_right (by decide) (by omega))
    have e3 : bw ((j.drop (i + c)).take (8 - c)) = b + 256 * a := by
      rw [List.drop_eq_getElem_cons hlt, show 8 - c = (8 - (c + 1)) + 1 by omega, List.take_succ_cons, hbe]
      simp only [bw, Int.toNat_natCast]
      rw [show i + c + 1 = i + (c + 1) by omega, ha]
    have e4 : IntKind.wrap IntKind.u64 (↑(BitVec.toNat (BitVec.ofInt (IntKind.bits IntKind.u64) (Go.Vx.shF BinOp.shl IntKind.u64 (a : Int) 8) ||| BitVec.ofInt (IntKind.bits IntKind.u64) (b : Int))) : Int) = ((b + 256 * a : Nat) : Int) := by
      have e5 : Go.Vx.shF BinOp.shl IntKind.u64 (a : Int) 8 = ((2 ^ 8 * a : Nat) : Int) := by
        show IntKind.u64.wrap ((a : Int) * 2 ^ min (8 : Int).toNat IntKind.u64.bits) = _
        rw [show min (8 : Int).toNat IntKind.u64.bits = 8 from rfl, wu64 (by omega) (by omega)]
        omega
      rw [e5]
      show Go.bits .or .u64 ((2 ^ 8 * a : Nat) : Int) (b : Int) = _
      rw [or64 (by omega) (by omega), ← Nat.two_pow_add_eq_or_of_lt (show b < 2 ^ 8 by omega) a]
      omega
    rw [ha, e4, ← e3]
    exact rat_l j hb i hi hj c (by omega)
theorem rat {j : List Int} (hb : ∀ x ∈ j, BY x) {i : Nat} (hi : i + 8 ≤ j.length) (hj : j.length ≤ 1000000) : Ev (fun k => X46.plexusref46_at.m k j (i : Int)) ((bw ((j.drop i).take 8) : Nat) : Int) := by
  refine Ev.congr (fun k => X46.plexusref46_at.m_eq k _ _) ?_
  have := (rat_l j hb i hi hj 8 (by omega)).diag
  simpa [bw] using this
theorem rfirst_l {key : Nat} (hk : key < 2 ^ 64) (j : List Int) (hb : ∀ x ∈ j, BY x) (hj : j.length ≤ 1000000) (n : Nat) (hn : n ≤ 64) (hlen : 24 + 8 * n ≤ j.length) (full : List Int) (hfl : full.length = n) : ∀ (m i : Nat) (acc : List Int), n - i = m → i ≤ n → acc.length = i → acc ++ nums m (j.drop (16 + 8 * i)) = full →
    Ev2 (fun p q => X46.plexusref46_first.l0 p q j (key : Int) (n : Int) (i : Int) acc) (full, decide (bw ((j.drop (16 + 8 * n)).take 8) = tagN key full))
  | 0, i, acc, hm, hin, hai, ha => by
    have hi : i = n := by omega
    subst hi
    have ha' : acc = full := by rw [← ha]; simp [nums]
    have e1 : IntKind.wrap IntKind.i64 (i : Int) = (i : Int) := wI (by omega) (by omega)
    have e2 : IntKind.wrap IntKind.i64 (16 + IntKind.wrap IntKind.i64 (8 * (i : Int))) = ((16 + 8 * i : Nat) : Int) := by rw [wI (x := 8 * (i : Int)) (by omega) (by omega), wI (by omega) (by omega)]; omega
    refine Ev2.step (fun p q => X46.plexusref46_first.l0_succ p q _ _ _ _ _) ?_
    rw [e1]
    refine ev2F (dF (by omega)) ?_
    rw [e2]
    refine Ev2.bind (rat hb (by omega) hj) (Ev2.bind (r3tag hk acc (by omega)) ?_)
    rw [ha']
    have e3 : ((((bw ((j.drop (16 + 8 * i)).take 8) : Nat) : Int) == ((tagN key full : Nat) : Int)) : Bool) = decide (bw ((j.drop (16 + 8 * i)).take 8) = tagN key full) := by
      rw [Bool.eq_iff_iff, beq_iff_eq, decide_eq_true_eq]; omega
    rw [e3]
    exact Ev2.now _
  | m + 1, i, acc, hm, hin, hai, ha => by
    have e1 : IntKind.wrap IntKind.i64 (n : Int) = (n : Int) := wI (by omega) (by omega)
    have e2 : IntKind.wrap IntKind.i64 (16 + IntKind.wrap IntKind.i64 (8 * (i : Int))) = ((16 + 8 * i : Nat) : Int) := by rw [wI (x := 8 * (i : Int)) (by omega) (by omega), wI (by omega) (by omega)]; omega
    refine Ev2.step (fun p q => X46.plexusref46_first.l0_succ p q _ _ _ _ _) ?_
    rw [e1]
    refine ev2T (dT (by omega)) ?_
    rw [e2]
    refine Ev2.bind (rat hb (by omega) hj) (ev2T (by simp only [List.length_cons, List.length_nil]; omega) ?_)
    rw [wI (x := (i : Int) + 1) (by omega) (by omega), show (i : Int) + 1 = ((i + 1 : Nat) : Int) by omega, wrap_i64']
    refine rfirst_l hk j hb hj n hn hlen full hfl m (i + 1) (acc ++ [wrap64 ((bw ((j.drop (16 + 8 * i)).take 8) : Nat) : Int)]) (by omega) (by omega) (by simp [hai]) ?_
    rw [← ha]
    simp only [nums, List.drop_drop, List.append_assoc, List.cons_append, List.nil_append]
    rw [show 16 + 8 * (i + 1) = 16 + 8 * i + 8 by omega]
theorem rfirst {key : Nat} (hk : key < 2 ^ 64) {j : List Int} (hb : ∀ x ∈ j, BY x) (hj : j.length ≤ 1000000) : ∃ x, Ev (fun k => X46.plexusref46_first.m k j (key : Int)) (x, (dec key j).isSome) ∧ ∀ r m t, dec key j = some (r, m, t) → x = r := by
  by_cases h16 : j.length < 16
  · refine ⟨[], ?_, fun r m t h => by rw [dec_short h16] at h; cases h⟩
    rw [dec_short h16]
    refine Ev.congr (fun k => X46.plexusref46_first.m_eq k _ _) ?_
    exact evJT (dT (by omega)) (Ev.now _)
  · have a0 := rat hb (i := 0) (by omega) hj
    rw [List.drop_zero] at a0
    have a8 := rat hb (i := 8) (by omega) hj
    have hn64 : bw (j.take 8) < 2 ^ 64 := (chunk (by omega) hb).2
    obtain ⟨n, hn⟩ : ∃ n, bw (j.take 8) = n := ⟨_, rfl⟩
    rw [hn] at a0 hn64
    have hm := X46.plexusref46_first.m_eq
    by_cases h64 : n > 64
    · have hdec : dec key j = none := by
        unfold dec
        rw [if_neg h16, if_pos]
        rw [hn]
        unfold wrap64
        omega
      refine ⟨[], ?_, fun r m t h => by rw [hdec] at h; cases h⟩
      rw [hdec]
      refine Ev.congr (fun k => hm k _ _) ?_
      exact evJF (dF (by omega)) (Ev.bind a0 (evJT (dT (by omega)) (Ev.now _)))
    · have hw : wrap64 ((n : Nat) : Int) = (n : Int) := w64 (by omega) (by omega)
      have hwi : IntKind.wrap IntKind.i64 ((n : Nat) : Int) = (n : Int) := wI (by omega) (by omega)
      have hdec : dec key j = if bw ((j.drop 8).take 8) ≠ wordsN [(n : Int)] then none else if (j.drop 16).length < 8 * (n + 1) then none
          else if bw (((j.drop 16).drop (8 * n)).take 8) = tagN key (nums n (j.drop 16)) then some (nums n (j.drop 16), tagN key (nums n (j.drop 16)), (j.drop 16).drop (8 * n + 8)) else none := by
        unfold dec
        rw [if_neg h16, hn, hw, if_neg (by omega), Int.toNat_natCast]
      by_cases hc : bw ((j.drop 8).take 8) = wordsN [(n : Int)]
      · rw [if_neg (by simp [hc])] at hdec
        by_cases hl : (j.drop 16).length < 8 * (n + 1)
        · rw [if_pos hl] at hdec
          refine ⟨[], ?_, fun r m t h => by rw [hdec] at h; cases h⟩
          rw [hdec]
          rw [List.length_drop] at hl
          refine Ev.congr (fun k => hm k _ _) ?_
          refine evJF (dF (by omega)) (Ev.bind a0 (evJF (dF (by omega)) (Ev.bind a8 ?_)))
          rw [hwi]
          refine Ev.bind (r3words _ (by simp)) (evJF (nF (by rw [hc])) (evJT (dT ?_) (Ev.now _)))
          rw [wI (x := 8 * (n : Int)) (by omega) (by omega), wI (by omega) (by omega)]
          omega
        · rw [if_neg hl] at hdec
          rw [List.length_drop] at hl
          have hfull : (nums n (j.drop 16)).length = n := nums_len _ _
          have hloop := (rfirst_l hk j hb hj n (by omega) (by omega) (nums n (j.drop 16)) hfull n 0 [] rfl (by omega) rfl (by simp)).diag
          rw [List.drop_drop] at hdec
          refine ⟨nums n (j.drop 16), ?_, fun r m t h => ?_⟩
          · have e : (dec key j).isSome = decide (bw ((j.drop (16 + 8 * n)).take 8) = tagN key (nums n (j.drop 16))) := by
              rw [hdec]
              split
              · rename_i q; rw [decide_eq_true q]; rfl
              · rename_i q; rw [decide_eq_false q]; rfl
            rw [e]
            refine Ev.congr (fun k => hm k _ _) ?_
            refine evJF (dF (by omega)) (Ev.bind a0 (evJF (dF (by omega)) (Ev.bind a8 ?_)))
            rw [hwi]
            refine Ev.bind (r3words _ (by simp)) (evJF (nF (by rw [hc])) (evJF (dF ?_) hloop))
            rw [wI (x := 8 * (n : Int)) (by omega) (by omega), wI (by omega) (by omega)]
            omega
          · rw [hdec] at h
            split at h
            · injection h with h; injection h with h _
            · cases h
      · rw [if_pos hc] at hdec
        refine ⟨[], ?_, fun r m t h => by rw [hdec] at h; cases h⟩
        rw [hdec]
        refine Ev.congr (fun k => hm k _ _) ?_
        refine evJF (dF (by omega)) (Ev.bind a0 (evJF (dF (by omega)) (Ev.bind a8 ?_)))
        rw [hwi]
        exact Ev.bind (r3words _ (by simp)) (evJT (nT (by omega)) (Ev.now _))
theorem rread_l : ∀ (l : List (List Int)) (key : Nat) (t : List Int) (out : List (List Int)), key < 2 ^ 64 → Fit l → dec (lk key l) t = none → (∀ x ∈ t, BY x) → (jn key l ++ t).length ≤ 1000000 → out.length + l.length ≤ 1000000 →
    Ev2 (fun p q => X46.plexusref46_Read.l0 p q (key : Int) (jn key l ++ t) out) (out ++ l, t, if t = [] then 0 else 460)
  | [], key, t, out, hk, hf, hd, hb, hl, ho => by
    have hl' : t.length ≤ 1000000 := by simpa [jn] using hl
    obtain ⟨x, hx, _⟩ := rfirst hk hb hl'
    rw [show dec key t = none from hd] at hx
    refine Ev2.step (fun p q => X46.plexusref46_Read.l0_succ p q _ _ _) ?_
    show Ev2 (fun p q => (X46.plexusref46_first.m q t (key : Int)).bind _) _
    refine Ev2.bind hx (ev2T rfl ?_)
    rw [List.append_nil]
    by_cases ht : t = []
    · rw [if_pos ht, ht]
      exact ev2F (dF (by simp [jn])) (Ev2.now _)
    · rw [if_neg ht]
      refine ev2T (dT ?_) (Ev2.now _)
      have := List.length_pos_iff.2 ht
      show (((jn key [] ++ t).length : Nat) : Int) > 0
      simp only [jn, List.nil_append]
      omega
  | r :: l, key, t, out, hk, hf, hd, hb, hl, ho => by
    have hr := hf r (List.mem_cons_self ..)
    have hf' : Fit l := fun s hs => hf s (List.mem_cons_of_mem _ hs)
    have e : jn key (r :: l) ++ t = enc key r ++ (jn (tagN key r) l ++ t) := by simp only [jn, List.append_assoc]
    rw [e] at hl ⊢
    have hby : ∀ x ∈ enc key r ++ (jn (tagN key r) l ++ t), BY x := fun x hx => by
      rcases List.mem_append.1 hx with q | q
      · exact enc_by _ _ x q
      · rcases List.mem_append.1 q with q | q
        · exact jn_by _ _ x q
        · exact hb x q
    obtain ⟨x, hx, hxr⟩ := rfirst hk hby hl
    have hde := dec_enc (key := key) hr.1 hr.2 (jn (tagN key r) l ++ t)
    obtain rfl := hxr _ _ _ hde
    rw [hde] at hx
    have hle := enc_len key x
    have hl2 := hl
    rw [List.length_append, hle] at hl2
    have e2 : IntKind.wrap IntKind.i64 (24 + IntKind.wrap IntKind.i64 (8 * ((x.length : Nat) : Int))) = ((8 * x.length + 24 : Nat) : Int) := by rw [wI (x := 8 * ((x.length : Nat) : Int)) (by omega) (by omega), wI (by omega) (by omega)]; omega
    refine Ev2.step (fun p q => X46.plexusref46_Read.l0_succ p q _ _ _) ?_
    refine Ev2.bind hx (ev2F (notF rfl) (ev2T (by simp only [List.length_cons, List.length_nil] at ho ⊢; omega) (Ev2.bind (r3tag hk x (by omega)) ?_)))
    rw [e2]
    refine ev2T (by omega) (ev2T (by rw [List.length_append, hle]; omega) ?_)
    rw [Int.toNat_natCast, ← hle, List.drop_left]
    have ih := rread_l l (tagN key x) t (out ++ [x]) (tagN_lt _ _) hf' hd hb (by omega) (by simp only [List.length_append, List.length_cons, List.length_nil] at ho ⊢; omega)
    rw [List.append_assoc] at ih
    exact ih
theorem rread {l : List (List Int)} {t : List Int} (hf : Fit l) (hd : dec (lk 0 l) t = none) (hb : ∀ x ∈ t, BY x) (hl : (jn 0 l ++ t).length ≤ 100000) : Ev (fun k => X46.plexusref46_Read.m k (jn 0 l ++ t)) (l, t, if t = [] then 0 else 460) := by
  refine Ev.congr (fun k => X46.plexusref46_Read.m_eq k _) ?_
  have hg := jn_ge l 0
  have hl2 := hl
  rw [List.length_append] at hl2
  have := (rread_l l 0 t [] (by decide) hf hd hb (by omega) (by simp; omega)).diag
  rw [List.nil_append] at this
  exact this
theorem rwhole {l : List (List Int)} {t : List Int} (hf : Fit l) (hd : dec (lk 0 l) t = none) (hb : ∀ x ∈ t, BY x) (hl : (jn 0 l ++ t).length ≤ 100000) : Ev (fun k => X46.plexusref46_Whole.m k (jn 0 l ++ t)) (jn 0 l) := by
  refine Ev.congr (fun k => X46.plexusref46_Whole.m_eq k _) ?_
  have hg := jn_ge l 0
  have hj := jn_len l 0
  have hl2 := hl
  rw [List.length_append] at hl2
  exact Ev.bind (rread hf hd hb hl) (Ev.bind (rjournal l (by omega) (fun r hr => by have := (hf r hr).1; omega) (by omega)) (Ev.now _))
theorem rput_long {j r : List Int} (hr : 64 < r.length) : Ev (fun k => X46.plexusref46_Put.m k j r) ([], 1) := by
  refine Ev.congr (fun k => X46.plexusref46_Put.m_eq k _ _) ?_
  exact evJT (dT (by omega)) (Ev.now _)
theorem rput_torn {l : List (List Int)} {t r : List Int} (hf : Fit l) (hd : dec (lk 0 l) t = none) (hb : ∀ x ∈ t, BY x) (hl : (jn 0 l ++ t).length ≤ 100000) (hn : t ≠ []) (hr : r.length ≤ 64) : Ev (fun k => X46.plexusref46_Put.m k (jn 0 l ++ t) r) ([], 460) := by
  refine Ev.congr (fun k => X46.plexusref46_Put.m_eq k _ _) ?_
  have h := rread hf hd hb hl
  rw [if_neg hn] at h
  exact evJF (dF (by omega)) (Ev.bind h (evJT (nT (by show (460 : Int) ≠ 0; decide)) (Ev.now _)))
theorem rput {l : List (List Int)} {r : List Int} (hf : Fit l) (hr : r.length ≤ 64) (hl : (jn 0 l).length + 8 * (r.length + 3) ≤ 65536) : Ev (fun k => X46.plexusref46_Put.m k (jn 0 l) r) (jn 0 (l ++ [r]), 0) := by
  refine Ev.congr (fun k => X46.plexusref46_Put.m_eq k _ _) ?_
  have hg := jn_ge l 0
  have hj := jn_len l 0
  have h := rread hf (dec_nil _) (t := []) (by simp) (by rw [List.append_nil]; omega)
  rw [List.append_nil, if_pos rfl] at h
  have hjl : jl (l ++ [r]) = jl l + (24 + 8 * r.length) := by
    rw [jl_app]; simp only [jl]; omega
  have h2 := rjournal (l ++ [r]) (by simp; omega) (fun s hs => by
    rcases List.mem_append.1 hs with q | q
    · have := (hf s q).1; omega
    · rw [List.mem_singleton.1 q]; omega) (by omega)
  have hj2 := jn_len (l ++ [r]) 0
  refine evJF (dF (by omega)) (Ev.bind h (evJF (nF rfl) (evJT (by simp only [List.length_cons, List.length_nil]; omega) ?_)))
  exact Ev.bind h2 (evJF (dF (by omega)) (Ev.now _))
end Go.Proofs.YtcanekmlabehgaaQ
