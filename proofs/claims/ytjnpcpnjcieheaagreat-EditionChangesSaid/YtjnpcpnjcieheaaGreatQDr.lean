/- Digests of numbers; turned from Private and Seal. -/
import Derived.Test.YtjnpcpnjcieheaaGreatQD
import Derived.Test.YtjnpcpnjcieheaaGreatX48R
namespace Go.Proofs.YtjnpcpnjcieheaaGreatQ
set_option linter.unusedVariables false
set_option linter.unusedSimpArgs false
open Go Go.RowKit Go.Proofs.YtjnpcpnjcieheaaGreat.P47 Go.Proofs.YtjnpcpnjcieheaaGreat.V48 Go.Proofs.YtjnpcpnjcieheaaGreatW.PrintWords Go.Proofs.YtjnpcpnjcieheaaGreatW.PrintLast Go.Proofs.YtjnpcpnjcieheaaGreatW.PrintMore
theorem r3step (k : Nat) {h w : Nat} (hh : h < 2 ^ 64) (hw : w < 2 ^ 64) : plexusref03_Step.m k (h : Int) (w : Int) = some ((stepN h w : Nat) : Int) := by
  rw [plexusref03_Step.m_eq]
  have ht : (h ^^^ w) * 11400714819323198485 % 2 ^ 64 < 2 ^ 64 := Nat.mod_lt _ (by decide)
  have e1 : IntKind.wrap IntKind.u64 (IntKind.wrap IntKind.u64 (↑(BitVec.toNat (BitVec.ofInt (IntKind.bits IntKind.u64) (h : Int) ^^^ BitVec.ofInt (IntKind.bits IntKind.u64) (w : Int))) : Int) * 11400714819323198485) = (((h ^^^ w) * 11400714819323198485 % 2 ^ 64 : Nat) : Int) := by
    show IntKind.u64.wrap (Go.bits .xor .u64 (h : Int) (w : Int) * 11400714819323198485) = _
    rw [xor64 hh hw, show ((11400714819323198485 : Int)) = ((11400714819323198485 : Nat) : Int) from rfl, mul64]
  rw [e1]
  have key : ∀ t : Nat, t < 2 ^ 64 → (some (IntKind.wrap IntKind.u64 (IntKind.wrap IntKind.u64 (↑(BitVec.toNat (BitVec.ofInt (IntKind.bits IntKind.u64) (t : Int) ^^^ BitVec.ofInt (IntKind.bits IntKind.u64) (Go.Vx.shF BinOp.shr IntKind.u64 (t : Int) 29))) : Int) * 13787848793156543929)) : Option Int) = some ((s29 t * 13787848793156543929 % 2 ^ 64 : Nat) : Int) := by
    intro t ht
    have e2 : Go.Vx.shF BinOp.shr IntKind.u64 (t : Int) 29 = ((t >>> 29 : Nat) : Int) := by
      show Int.fdiv (t : Int) (2 ^ min (29 : Int).toNat IntKind.u64.bits) = _
      rw [show min (29 : Int).toNat IntKind.u64.bits = 29 from rfl, Int.fdiv_eq_ediv_of_nonneg _ (by decide), Nat.shiftRight_eq_div_pow]
      omega
    rw [e2]
    show some (IntKind.u64.wrap (Go.bits .xor .u64 (t : Int) ((t >>> 29 : Nat) : Int) * 13787848793156543929)) = _
    rw [xor64 ht (sr_lt ht 29), show ((13787848793156543929 : Int)) = ((13787848793156543929 : Nat) : Int) from rfl, mul64]
    rfl
  exact key _ ht
theorem rstep_m (k : Nat) {a b : Int} (ha : U a) (hb : U b) : plexusref03_Step.m k a b = some (YtjnpcpnjcieheaaGreat.P47.seal_stepv a b) := by
  rw [stepv_eq ha hb]
  obtain ⟨A, rfl, hA⟩ := ha.nat
  obtain ⟨B, rfl, hB⟩ := hb.nat
  exact r3step k hA hB
theorem rwords_l0 (l : List Int) (hl : l.length ≤ 100000) : ∀ (m i : Nat) (h : Int), l.length - i = m → i ≤ l.length → U h →
    Ev2 (fun n k => plexusref03_Words.l0 n k l h (i : Int)) (YtjnpcpnjcieheaaGreat.P47.seal_stepv (((l.drop i).map (IntKind.u64.wrap ·)).foldl YtjnpcpnjcieheaaGreat.P47.seal_stepv h) (IntKind.u64.wrap (l.length : Int)))
  | 0, i, h, hm, hi, hu => by
    obtain rfl : i = l.length := by omega
    refine Ev2.step (fun n k => plexusref03_Words.l0_succ n k _ _ _) ?_
    rw [List.drop_length]
    exact ev2F (dF (by omega)) (Ev2.bind ⟨0, fun k _ => rstep_m k hu (wrap_U _)⟩ (Ev2.now _))
  | m + 1, i, h, hm, hi, hu => by
    have hlt : i < l.length := by omega
    refine Ev2.step (fun n k => plexusref03_Words.l0_succ n k _ _ _) ?_
    rw [inc64 (by omega), getD_get hlt, List.drop_eq_getElem_cons hlt, List.map_cons, List.foldl_cons]
    refine ev2T (dT (by omega)) (ev2T (by omega) (ev2T (by omega) (Ev2.bind ⟨0, fun k _ => rstep_m k hu (wrap_U _)⟩ ?_)))
    exact rwords_l0 l hl m (i + 1) _ (by omega) (by omega) (stepv_U hu (wrap_U _))
theorem rwords_f (l : List Int) (hl : l.length ≤ 100000) : Ev (fun k => plexusref03_Words.m k l) (wd l) := by
  refine evX (fun k => plexusref03_Words.m_eq k _) ?_
  have := (rwords_l0 l hl l.length 0 123610861172083 (by omega) (by omega) U_start).diag
  rwa [List.drop_zero] at this
end Go.Proofs.YtjnpcpnjcieheaaGreatQ
