/- Quiet operations, the third part. -/
import Derived.Test.YtcanekmlabehgaaVe
import Derived.Laws.Slices
namespace Go.Vx
open Go.RowKit Go.Proofs.YtcanekmlabehgaaW.PrintWords
set_option linter.unusedVariables false
set_option linter.unusedSimpArgs false
section
variable {R : Type}
theorem qField_ok {P : Program} {o : Oper} {s : St} {T : TypeId} {x : Operand} {i : Nat} {k : AV → Option R} {r : R} (ho : o.op = .field T x i) (h : qField P s T x i k = some r) : QOk P o s k r := by
  unfold qField at h
  split at h
  · rename_i cs fs hx hd
    split at h
    · rename_i f hf
      split at h
      · rename_i av ht
        refine ⟨_, h, QTo.pure fun W0 E a w hs => ?_⟩
        have := hs.ev x
        rw [hx] at this
        obtain ⟨vals, e, hc⟩ := this
        obtain ⟨v, hv, hr⟩ := part_run ht hc
        refine ⟨v, hv, fun w' _ => ?_⟩
        simp only [execOp, ho, e, Instr.field, Sem.run_bind, run_underlying hd, Result.andThen_ok, hf, asAgg, Sem.run_pure, hr w']
      · cases h
    · cases h
  · cases h
/-- A variable's value is read. -/
def qLoad (P : Program) (s : St) (T : TypeId) (x : Operand) (k : AV → Option R) : Option R :=
  match evl s x with
  | .ptr t off => match find t s.ents with
    | some (.box _ cells) => match take1 P T (cells.drop off) with
      | some av => k av
      | none => none
    | _ => none
  | .cp cells => match take1 P T cells with
    | some av => k av
    | none => none
  | .epo t i sz off => match find t s.ents with
    | some (.row r) => bif Nat.beq sz r.k.sz then (match take1 P T ((inj r.k (List.getD r.xs i r.k.dflt)).drop off) with
      | some av => k av
      | none => none) else none
    | _ => none
  | _ => none
theorem row_elem {W0 : Base} {E : Env} {w : World} {v : Value} {r : Row} {g n c i : Nat} (h : EntOK W0 E w v (.row r)) (hv : v = .slice (some ⟨g, 0, none⟩) n c) (hi : i < n) :
    ∃ vals, All2 (VB E w) (inj r.k (List.getD r.xs i r.k.dflt)) vals ∧ (∀ (j : Nat) (u : Value), vals[j]? = some u → w.cell? ⟨g, i * r.k.sz + j, none⟩ = some u) ∧ List.length r.xs = n ∧ Rd w E.F r.k (List.getD r.xs i r.k.dflt) vals := by
  obtain ⟨⟨cells, ho, hr⟩, _⟩ := h
  have hn : List.length r.xs = n := by
    rcases ho.2 with ⟨q, _⟩ | ⟨_, _, _, q, _⟩
    · rw [hv] at q; cases q
    · rw [hv] at q; injection q with _ q _; exact q.symm
  have hlt : i < List.length r.xs := by omega
  have hx : r.xs[i]? = some (List.getD r.xs i r.k.dflt) := by
    rw [List.getD_eq_getElem?_getD, List.getElem?_eq_getElem hlt]; rfl
  refine ⟨(cells.drop (i * r.k.sz)).take r.k.sz, inj_rd (hr.2 i _ hx), fun j u hu => ?_, hn, hr.2 i _ hx⟩
  subst hv
  have := ho.cells (g := g) rfl (i * r.k.sz + j) u (by
    rw [List.getElem?_take] at hu
    split at hu
    · rw [List.getElem?_drop] at hu
      exact hu
    · cases hu)
  rwa [add_plain] at this
theorem qLoad_ok {P : Program} {o : Oper} {s : St} {T : TypeId} {x : Operand} {k : AV → Option R} {r : R} (ho : o.op = .load T x) (h : qLoad P s T x k = some r) : QOk P o s k r := by
  unfold qLoad at h
  split at h
  · rename_i t off hx
    split at h
    · rename_i T' cells he
      split at h
      · rename_i av ht
        refine ⟨_, h, QTo.pure fun W0 E a w hs => ?_⟩
        have := hs.ev x
        rw [hx] at this
        obtain ⟨hu, b, hvs, e⟩ := this
        obtain ⟨_, b', vals, hvs', h0, hF, hg, hc⟩ := hs.ents _ _ he
        rw [hvs] at hvs'
        obtain rfl : b = b' := by injection hvs' with q; injection q with q; injection q
        obtain ⟨v, hv, hr⟩ := take1_run (w' := w) (ad := ⟨b, off, none⟩) ht (hc.drop off)
        refine ⟨v, hv, fun w' hb => ?_⟩
        have hg' := (hb.block b (Go.Proofs.YtcanekmlabehgaaW.PrintWords.blk_lt hg)).trans hg
        simp only [execOp, ho, e, Instr.loadAt, Sem.run_bind, Instr.sureAddr, Sem.run_pure, Result.andThen_ok]
        rw [hr w' (fun j u hj => by
          rw [add_off, cell_of_row w' b (off + j) vals T' (0, 0) hg', ← Array.getElem?_toList]
          rwa [List.getElem?_drop] at hj)]
        rfl
      · cases h
    · cases h
  · rename_i cells hx
    split at h
    · rename_i av ht
      refine ⟨_, h, QTo.pure fun W0 E a w hs => ?_⟩
      have := hs.ev x
      rw [hx] at this
      obtain ⟨ad, vals, e, hF, hc, hm⟩ := this
      obtain ⟨v, hv, hr⟩ := take1_run (w' := w) (ad := ad) ht hc
      refine ⟨v, hv, fun w' hb => ?_⟩
      simp only [execOp, ho, e, Instr.loadAt, Sem.run_bind, Instr.sureAddr, Sem.run_pure, Result.andThen_ok]
      rw [hr w' (fun j u hj => cell_same (by rw [add_block]; exact hb.block _ (hs.fz _ hF)) (hm j u hj))]
      rfl
    · cases h
  · rename_i t i sz off hx
    split at h
    · rename_i rw_ he
      cases hsz : Nat.beq sz rw_.k.sz with
      | false => rw [hsz] at h; cases h
      | true =>
        rw [hsz] at h
        simp only [cond_true] at h
        obtain rfl := Nat.eq_of_beq_eq_true hsz
        split at h
        · rename_i av ht
          refine ⟨_, h, QTo.pure fun W0 E a w hs => ?_⟩
          have := hs.ev x
          rw [hx] at this
          obtain ⟨hu, g, n, c, hvs, hi, e⟩ := this
          obtain ⟨_, hok⟩ := hs.ents _ _ he
          obtain ⟨vals, hc, hm, _, _⟩ := row_elem hok hvs hi
          obtain ⟨v, hv, hr⟩ := take1_run (w' := w) (ad := ⟨g, i * rw_.k.sz + off, none⟩) ht (hc.drop off)
          refine ⟨v, hv, fun w' hb => ?_⟩
          have hlt := (hok.blk_lt (b := g) (by rw [hvs]; rfl)).2
          simp only [execOp, ho, e, Instr.loadAt, Sem.run_bind, Instr.sureAddr, Sem.run_pure, Result.andThen_ok]
          rw [hr w' (fun j u hj => by
            rw [List.getElem?_drop] at hj
            have := hm (off + j) u hj
            rw [add_off, Nat.add_assoc]
            exact cell_same (hb.block g hlt) this)]
          rfl
        · cases h
    · cases h
  · cases h
/-- The address of a field. -/
def qFieldAddr (P : Program) (s : St) (T : TypeId) (x : Operand) (i : Nat) (k : AV → Option R) : Option R :=
  match P.underlying T with
  | some (.struct fs) => match fs[i]? with
    | some f => match P.info? f.type with
      | some inf => bif Nat.beq inf.size 0 then none else (match evl s x with
        | .ptr t off => k (.ptr t (off + f.offset))
        | .cp cells => k (.cp (cells.drop f.offset))
        | .epo t j sz off => k (.epo t j sz (off + f.offset))
        | _ => none)
      | none => none
    | none => none
  | _ => none
theorem fieldAt_run {P : Program} {T : TypeId} {fs : Array Field} {i : Nat} {f : Field} {inf : TypeInfo} (hd : P.underlying T = some (.struct fs)) (hf : fs[i]? = some f) (hi : P.info? f.type = some inf) (hz : Nat.beq inf.size 0 = false) (ad : Addr) (w : World) :
    (Instr.fieldAt T (.pointer (some ad)) i).run P w = .ok (.pointer (some (ad.add f.offset))) w := by
  have hz' : inf.size ≠ 0 := fun e => by rw [e] at hz; cases hz
  simp [Instr.fieldAt, run_underlying hd, hf, Instr.sureAddr, fieldPlace, sizeOf, typeInfo, hi, hz']
theorem add_add' (ad : Addr) (i j : Nat) : (ad.add i).add j = ad.add (i + j) := by
  unfold Addr.add
  by_cases hi : i = 0
  · subst hi
    simp
  · by_cases hj : j = 0
    · subst hj
      simp
    · rw [if_neg hj, if_neg hi, if_neg (by omega)]
      simp [Nat.add_assoc]
theorem qFieldAddr_ok {P : Program} {o : Oper} {s : St} {T : TypeId} {x : Operand} {i : Nat} {k : AV → Option R} {r : R} (ho : o.op = .fieldAddr T x i) (h : qFieldAddr P s T x i k = some r) : QOk P o s k r := by
  unfold qFieldAddr at h
  split at h
  · rename_i fs hd
    split at h
    · rename_i f hf
      split at h
      · rename_i inf hi
        cases hz : Nat.beq inf.size 0 with
        | true => rw [hz] at h; cases h
        | false =>
          rw [hz] at h
          simp only [cond_false] at h
          split at h
          · rename_i t off hx
            refine ⟨_, h, QTo.pure fun W0 E a w hs => ?_⟩
            have := hs.ev x
            rw [hx] at this
            obtain ⟨hu, b, hvs, e⟩ := this
            refine ⟨.pointer (some ⟨b, off + f.offset, none⟩), ⟨hu, b, hvs, rfl⟩, fun w' _ => ?_⟩
            simp only [execOp, ho, e, Sem.run_bind, fieldAt_run hd hf hi hz, Result.andThen_ok, Sem.run_pure, add_off]
          · rename_i cells hx
            refine ⟨_, h, QTo.pure fun W0 E a w hs => ?_⟩
            have := hs.ev x
            rw [hx] at this
            obtain ⟨ad, vals, e, hF, hc, hm⟩ := this
            refine ⟨.pointer (some (ad.add f.offset)), ⟨ad.add f.offset, vals.drop f.offset, rfl, by rw [add_block]; exact hF, hc.drop _, fun j v hj => ?_⟩, fun w' _ => ?_⟩
            · rw [add_add']
              rw [List.getElem?_drop] at hj
              exact hm _ v hj
            · simp only [execOp, ho, e, Sem.run_bind, fieldAt_run hd hf hi hz, Result.andThen_ok, Sem.run_pure]
          · rename_i t j sz off hx
            refine ⟨_, h, QTo.pure fun W0 E a w hs => ?_⟩
            have := hs.ev x
            rw [hx] at this
            obtain ⟨hu, g, n, c, hvs, hj, e⟩ := this
            refine ⟨.pointer (some ⟨g, j * sz + (off + f.offset), none⟩), ⟨hu, g, n, c, hvs, hj, rfl⟩, fun w' _ => ?_⟩
            simp only [execOp, ho, e, Sem.run_bind, fieldAt_run hd hf hi hz, Result.andThen_ok, Sem.run_pure, add_off, Nat.add_assoc]
          · cases h
      · cases h
    · cases h
  · cases h
/-- The address of an element. -/
def qIndexAddr (P : Program) (s : St) (T : TypeId) (x i : Operand) (k : AV → Option R) : Option R :=
  match evl s i with
  | .val (.int _ j) => match P.underlying T with
    | some (.slice e) => match P.info? e with
      | some inf => match evl s x with
        | .sh ke xs => bif Nat.beq inf.size ke.sz then (oif (0 ≤ j) (oif (j < (List.length xs : Int)) (k (.cp (inj ke (List.getD xs j.toNat ke.dflt)))) none) none) else none
        | .own t => match find t s.ents with
          | some (.row r) => bif Nat.beq inf.size r.k.sz then (oif (0 ≤ j) (oif (j < (List.length r.xs : Int)) (k (.epo t j.toNat r.k.sz 0)) none) none) else none
          | _ => none
        | _ => none
      | none => none
    | some (.array n e) => match P.info? e with
      | some inf => match evl s x with
        | .ptr t off => oif (0 ≤ j) (oif (j < (n : Int)) (k (.ptr t (off + j.toNat * inf.size))) none) none
        | .cp cells => oif (0 ≤ j) (oif (j < (n : Int)) (k (.cp (cells.drop (j.toNat * inf.size)))) none) none
        | _ => none
      | none => none
    | _ => none
  | _ => none
theorem sh_elem {E : Env} {w : World} {ke : K} {xs : List ke.T} {u : Value} {j : Int} (h : VA E w (.sh ke xs) u) (h0 : 0 ≤ j) (h1 : j < (List.length xs : Int)) :
    ∃ ad c, u = .slice (some ad) (List.length xs) c ∧ VR E w (.cp (inj ke (List.getD xs j.toNat ke.dflt))) (.pointer (some (ad.add (j.toNat * ke.sz)))) := by
  obtain ⟨A, c, e, hc, hr, hF⟩ := h
  have hn : 0 < List.length xs := by omega
  obtain ⟨ad, rfl, hcells⟩ := hr.2.2 hn
  have hlt : j.toNat < List.length xs := by omega
  obtain ⟨cl, hl, hR, hm⟩ := hcells j.toNat (List.getD xs j.toNat ke.dflt) (by
    rw [List.getD_eq_getElem?_getD, show (show List ke.T from xs)[j.toNat]? = some _ from List.getElem?_eq_getElem hlt]; rfl)
  refine ⟨ad, c, by injection e, ad.add (j.toNat * ke.sz), cl, rfl, by rw [add_block]; exact hF hn _ rfl, inj_rd hR, fun i v hi => ?_⟩
  rw [add_add']
  exact hm i v hi
theorem qIndexAddr_ok {P : Program} {o : Oper} {s : St} {T : TypeId} {x i : Operand} {k : AV → Option R} {r : R} (ho : o.op = .indexAddr T x i) (h : qIndexAddr P s T x i k = some r) : QOk P o s k r := by
  unfold qIndexAddr oif at h
  split at h
  · rename_i ki j hi
    have hiv : ∀ (W0 : Base) (E : Env) (a : Act) (w : World), Sim W0 E s a w → a.eval i = .int ki j := fun W0 E a w hs => by
      have := hs.ev i
      rw [hi] at this
      exact this
    split at h
    · rename_i e hd
      have hel : P.elem T = e := by simp [Program.elem, hd]
      have hu : P.underlying T = some (.slice (P.elem T)) := by rw [hel]; exact hd
      split at h
      · rename_i inf hinf
        split at h
        · rename_i ke xs hx
          cases hsz : Nat.beq inf.size ke.sz with
          | false => rw [hsz] at h; cases h
          | true =>
            rw [hsz] at h
            have hsz' := Nat.eq_of_beq_eq_true hsz
            simp only [cond_true] at h
            split at h
            · rename_i h0
              split at h
              · rename_i h1
                refine ⟨_, h, QTo.pure fun W0 E a w hs => ?_⟩
                have := hs.ev x
                rw [hx] at this
                obtain ⟨ad, c, e1, hv⟩ := sh_elem this h0 h1
                refine ⟨_, hv, fun w' _ => ?_⟩
                simp only [execOp, ho, e1, hiv W0 E a w hs, Sem.run_bind, run_indexAt_slice w' T ad _ c ki j hu, if_pos (And.intro h0 h1), hel, sizeOf, typeInfo, Result.andThen_ok, Sem.run_pure]
                simp [hinf, hsz']
              · cases h
            · cases h
        · rename_i t hx
          split at h
          · rename_i rw_ he
            cases hsz : Nat.beq inf.size rw_.k.sz with
            | false => rw [hsz] at h; cases h
            | true =>
              rw [hsz] at h
              have hsz' := Nat.eq_of_beq_eq_true hsz
              simp only [cond_true] at h
              split at h
              · rename_i h0
                split at h
                · rename_i h1
                  refine ⟨_, h, QTo.pure fun W0 E a w hs => ?_⟩
                  have := hs.ev x
                  rw [hx] at this
                  obtain ⟨hut, e1⟩ := this
                  obtain ⟨_, ⟨cells, hown, hreps⟩, hfz⟩ := hs.ents _ _ he
                  have hn : 0 < List.length rw_.xs := by omega
                  obtain ⟨g, cap, hvs, _, _⟩ := hown.form hn
                  refine ⟨.pointer (some ⟨g, j.toNat * rw_.k.sz + 0, none⟩), ⟨hut, g, _, cap, hvs, by omega, rfl⟩, fun w' _ => ?_⟩
                  rw [hvs] at e1
                  simp only [execOp, ho, e1, hiv W0 E a w hs, Sem.run_bind, run_indexAt_slice w' T ⟨g, 0, none⟩ _ cap ki j hu, if_pos (And.intro h0 h1), hel, sizeOf, typeInfo, Result.andThen_ok, Sem.run_pure]
                  simp [hinf, hsz', add_off]
                · cases h
              · cases h
          · cases h
        · cases h
      · cases h
    · rename_i n e hd
      have hel : P.elem T = e := by simp [Program.elem, hd]
      have hln : P.arrayLen T = n := by simp [Program.arrayLen, hd]
      have hu : P.underlying T = some (.array (P.arrayLen T) (P.elem T)) := by rw [hel, hln]; exact hd
      split at h
      · rename_i inf hinf
        split at h
        · rename_i t off hx
          split at h
          · rename_i h0
            split at h
            · rename_i h1
              refine ⟨_, h, QTo.pure fun W0 E a w hs => ?_⟩
              have := hs.ev x
              rw [hx] at this
              obtain ⟨hut, b, hvs, e1⟩ := this
              refine ⟨.pointer (some ⟨b, off + j.toNat * inf.size, none⟩), ⟨hut, b, hvs, rfl⟩, fun w' _ => ?_⟩
              simp only [execOp, ho, e1, hiv W0 E a w hs, Sem.run_bind, run_indexAt_array w' T _ ki j hu, hln, if_pos (And.intro h0 h1), hel, sizeOf, typeInfo, Result.andThen_ok, Sem.run_pure]
              simp [hinf, add_off]
            · cases h
          · cases h
        · rename_i cells hx
          split at h
          · rename_i h0
            split at h
            · rename_i h1
              refine ⟨_, h, QTo.pure fun W0 E a w hs => ?_⟩
              have := hs.ev x
              rw [hx] at this
              obtain ⟨ad, vals, e1, hF, hc, hm⟩ := this
              refine ⟨.pointer (some (ad.add (j.toNat * inf.size))), ⟨_, vals.drop (j.toNat * inf.size), rfl, by rw [add_block]; exact hF, hc.drop _, fun m v hj => ?_⟩, fun w' _ => ?_⟩
              · rw [add_add']
                rw [List.getElem?_drop] at hj
                exact hm _ v hj
              · simp only [execOp, ho, e1, hiv W0 E a w hs, Sem.run_bind, run_indexAt_array w' T _ ki j hu, hln, if_pos (And.intro h0 h1), hel, sizeOf, typeInfo, Result.andThen_ok, Sem.run_pure]
                simp [hinf]
            · cases h
          · cases h
        · cases h
      · cases h
    · cases h
  · cases h
end
end Go.Vx
