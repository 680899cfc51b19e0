/-
  Marks in registers; the law FnExactNewRegister.
-/
import Derived.Test.YtponkoaomcgohaaReg2
set_option linter.unusedVariables false
set_option linter.unusedSimpArgs false
set_option linter.unnecessarySimpa false
namespace Go.Vc
open Go.Proofs
set_option maxRecDepth 100000
theorem c_markRegister (r : RegM) (k : Int) (v1 v2 : Nat) (d1 d2 : Bool) (hk : 0 ≤ k ∧ k ≤ 100000000) (h1 : r.tags.length ≤ 100000000) (h2 : r.roles.length ≤ 100000000) :
    FnM Try.prog 46 [.row v1 ⟨3, true⟩ d1 (r.tags.map eTag), .row v2 ⟨1, false⟩ d2 (r.roles.map eI)] [.agg [.ref 1000000000 v1 0 r.tags.length, .ref 1000000001 v2 0 r.roles.length], eI k]
      (fun x io => x = eI (k + 3 * r.tags.length + 1 * r.roles.length) ∧ io = [.row v1 ⟨3, true⟩ d1 ((markLTagS k r.tags.length).map eTag), .row v2 ⟨1, false⟩ d2 ((markLInt64S (k + 3 * r.tags.length) r.roles.length).map eI)]) := by
  refine FnM.of_vcN 14 [.tmp 4] Try.func46 rfl rfl rfl rfl rfl (of_decide_eq_true rfl) ?_
  simp -dsimp -implicitDefEqProofs only [go_sem, ↓reduceIte, Nat.reduceEqDiff, Nat.reduceLT, Nat.reduceAdd, Nat.reduceMul, Nat.reduceLeDiff, Nat.le_refl, Int.natCast_zero, Int.toNat_natCast, Int.reduceToNat]
  repeat' (with_reducible refine And.intro ?_ ?_)
  all_goals try (simp; done)
  refine sCallT_io [1000000000] ?_
  simp -dsimp -implicitDefEqProofs only [go_sem, ↓reduceIte, Nat.reduceEqDiff, Nat.reduceLT, Nat.reduceAdd, Nat.reduceMul, Nat.reduceLeDiff, Nat.le_refl, Int.natCast_zero, Int.toNat_natCast, Int.reduceToNat]
  refine sCallM_one (c_markTagS _ _ _ _ (by omega) (by omega)) ?_
  simp -dsimp -implicitDefEqProofs only [go_sem, ↓reduceIte, Nat.reduceEqDiff, Nat.reduceLT, Nat.reduceAdd, Nat.reduceMul, Nat.reduceLeDiff, Nat.le_refl, Int.natCast_zero, Int.toNat_natCast, Int.reduceToNat]
  repeat' (with_reducible refine And.intro ?_ ?_)
  all_goals try (simp; done)
  refine sCallT_io [1000000001] ?_
  simp -dsimp -implicitDefEqProofs only [go_sem, ↓reduceIte, Nat.reduceEqDiff, Nat.reduceLT, Nat.reduceAdd, Nat.reduceMul, Nat.reduceLeDiff, Nat.le_refl, Int.natCast_zero, Int.toNat_natCast, Int.reduceToNat]
  refine sCallM_one (c_markInt64S _ _ _ _ (by omega) (by omega)) ?_
  simp -dsimp -implicitDefEqProofs only [go_sem, ↓reduceIte, Nat.reduceEqDiff, Nat.reduceLT, Nat.reduceAdd, Nat.reduceMul, Nat.reduceLeDiff, Nat.le_refl, Int.natCast_zero, Int.toNat_natCast, Int.reduceToNat]
end Go.Vc
