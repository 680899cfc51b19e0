/-
  Marks in registers; the law FnExactNewRegister.
-/
import Derived.Test.YtnmaeefcjdbpcaaGreatDoorReg2
set_option linter.unusedVariables false
set_option linter.unusedSimpArgs false
set_option linter.unnecessarySimpa false
namespace Go.Vc
open Go.Proofs
set_option maxRecDepth 100000
theorem c_markRegister (r : RegM) (k : Int) (v1 v2 : Nat) (d1 d2 : Bool) (hk : 0 ≤ k ∧ k ≤ 100000000) (h1 : r.tags.length ≤ 100000000) (h2 : r.roles.length ≤ 100000000) :
    FnM Tryz.prog 10 [.row v1 ⟨3, true⟩ d1 (r.tags.map eTag), .row v2 ⟨1, false⟩ d2 (r.roles.map eI)] [.agg [.ref 1000000000 v1 0 r.tags.length, .ref 1000000001 v2 0 r.roles.length], eI k]
      (fun x io => x = eI (k + 3 * r.tags.length + 1 * r.roles.length) ∧ io = [.row v1 ⟨3, true⟩ d1 ((markLTagS k r.tags.length).map eTag), .row v2 ⟨1, false⟩ d2 ((markLInt64S (k + 3 * r.tags.length) r.roles.length).map eI)]) := by
  refine FnM.of_vcN 14 [.tmp 4] Tryz.func10 rfl rfl rfl rfl rfl (of_decide_eq_true rfl) ?_
  simp -dsimp -implicitDefEqProofs only [go_sem, ↓reduceIte, Nat.reduceEqDiff, Nat.reduceLT, Nat.reduceAdd, Nat.reduceMul, Nat.reduceLeDiff, Nat.le_refl, Int.natCast_zero, Int.toNat_natCast, Int.reduceToNat]
  repeat' (with_reducible refine And.intro ?_ ?_)
  all_goals try (simp; done)
  refine sCallT_io [1000000000] ?_
  simp -dsimp -implicitDefEqProofs only [go_sem, ↓reduceIte, Nat.reduceEqDiff, Nat.reduceLT, Nat.reduceAdd, Nat.reduceMul, Nat.reduceLeDiff, Nat.le_refl, Int.natCast_zero, Int.toNat_natCast, Int.reduceToNat]
  refine sCallM_one (c_markTagS _ _ _ _ (by omega) (by omega)) ?_
  simp -dsimp -implicitDefEqProofs only [go_sem, ↓reduceIte, Nat.reduceEqDiff, Nat.reduceLT, Nat.reduceAdd, Nat.reduceMul, Nat.reduceLeDiff, Nat.le_refl, Int.natCast_zero, Int.toNat_natCast, Int.reduceToNat]
  repeat' (with_reducible refine And.intro ?_ ?_)
  all_goals try (simp; done)
  refine sCallT_io [1000000001] ?_
  simp -dsimp -implicitDefEqProofs only [go_sem, ↓reduceIte, Nat.reduceEqDiff, Nat.reduceLT, Nat.reduceAdd, Nat.reduceMul, Nat.reduceLeDiff, Nat.le_refl, Int.natCast_zero, Int.toNat_natCast, Int.reduceToNat]
  refine sCallM_one (c_markInt64S _ _ _ _ (by omega) (by omega)) ?_
  simp -dsimp -implicitDefEqProofs only [go_sem, ↓reduceIte, Nat.reduceEqDiff, Nat.reduceLT, Nat.reduceAdd, Nat.reduceMul, Nat.reduceLeDiff, Nat.le_refl, Int.natCast_zero, Int.toNat_natCast, Int.reduceToNat]
theorem c_heldRegister (a b : Nat) (k : Int) (hk : 0 ≤ k ∧ k ≤ 100000000) (h1 : a ≤ 100000000) (h2 : b ≤ 100000000) :
    Fn Tryz.prog 11 [.agg [eTags (markLTagS k a), eIs (markLInt64S (k + 3 * a) b)], eI k] true (· = eI (k + 3 * a + 1 * b)) := by
  refine Fn.of_vcN 18 [.tmp 4] Tryz.func11 rfl rfl rfl rfl rfl (of_decide_eq_true rfl) ?_
  simp -dsimp -implicitDefEqProofs only [go_sem, ↓reduceIte, Nat.reduceEqDiff, Nat.reduceLT, Nat.reduceAdd, Nat.reduceMul, Nat.reduceLeDiff, Nat.le_refl, Int.natCast_zero, Int.toNat_natCast, Int.reduceToNat]
  refine sCallT_one (c_heldTagS _ _ (by omega) (by omega)) ?_
  simp -dsimp -implicitDefEqProofs only [go_sem, ↓reduceIte, Nat.reduceEqDiff, Nat.reduceLT, Nat.reduceAdd, Nat.reduceMul, Nat.reduceLeDiff, Nat.le_refl, Int.natCast_zero, Int.toNat_natCast, Int.reduceToNat]
  refine Br.neg (by simp; omega) ?_
  simp -dsimp -implicitDefEqProofs only [go_sem, ↓reduceIte, Nat.reduceEqDiff, Nat.reduceLT, Nat.reduceAdd, Nat.reduceMul, Nat.reduceLeDiff, Nat.le_refl, Int.natCast_zero, Int.toNat_natCast, Int.reduceToNat]
  refine sCallT_one (c_heldInt64S _ _ (by omega) (by omega)) ?_
  simp -dsimp -implicitDefEqProofs only [go_sem, ↓reduceIte, Nat.reduceEqDiff, Nat.reduceLT, Nat.reduceAdd, Nat.reduceMul, Nat.reduceLeDiff, Nat.le_refl, Int.natCast_zero, Int.toNat_natCast, Int.reduceToNat]
  refine Br.neg (by simp; omega) ?_
  simp -dsimp -implicitDefEqProofs only [go_sem, ↓reduceIte, Nat.reduceEqDiff, Nat.reduceLT, Nat.reduceAdd, Nat.reduceMul, Nat.reduceLeDiff, Nat.le_refl, Int.natCast_zero, Int.toNat_natCast, Int.reduceToNat]
end Go.Vc
