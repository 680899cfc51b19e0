/-
  Contracts of the functions on makers; rising lists; members of lists.
-/
import Derived.Test.YtlelhmbhhnokoaaNest
set_option linter.unusedVariables false
set_option linter.unusedSimpArgs false
set_option linter.unnecessarySimpa false
namespace Go.Vc
open Go.Proofs
set_option maxRecDepth 100000
def isMk (m : MkM) : Bool := isIn m.chambers 2 6 && isIn m.depths 2 8 && isIn m.step 1 (m.depths - 1) && isIn m.same 1 m.chambers && isIn m.least 1 (if m.depths < m.chambers then m.depths else m.chambers)
theorem isMk_num {m : MkM} (h : isMk m = true) : (2 ≤ m.chambers ∧ m.chambers ≤ 6) ∧ 2 ≤ m.depths ∧ m.depths ≤ 8 := by
  simp [isMk, isIn] at h; omega
theorem c_sIsMaker (m : MkM) : Fn Try.prog 44 [eMk m] true (· = eB (isMk m)) := by
  refine Fn.of_vcN 36 [.tmp 2] Try.func44 rfl rfl rfl rfl rfl (of_decide_eq_true rfl) ?_
  simp -dsimp -implicitDefEqProofs only [go_sem, ↓reduceIte, Nat.reduceEqDiff, Nat.reduceLT, Nat.reduceAdd, Nat.reduceMul, Nat.reduceLeDiff, Nat.le_refl, Int.natCast_zero, Int.toNat_natCast, Int.reduceToNat]
  repeat' first
    | (refine Br.intro (fun _ => ?_) (fun _ => ?_) <;> try simp -dsimp -implicitDefEqProofs only [go_sem, ↓reduceIte, Nat.reduceEqDiff, Nat.reduceLT, Nat.reduceAdd, Nat.reduceMul, Nat.reduceLeDiff, Nat.le_refl, Int.natCast_zero, Int.toNat_natCast, Int.reduceToNat, *])
    | (with_reducible refine And.intro ?_ ?_)
    | (refine sCallT_one (c_l01In _ _ _) ?_; try simp -dsimp -implicitDefEqProofs only [go_sem, ↓reduceIte, Nat.reduceEqDiff, Nat.reduceLT, Nat.reduceAdd, Nat.reduceMul, Nat.reduceLeDiff, Nat.le_refl, Int.natCast_zero, Int.toNat_natCast, Int.reduceToNat, *])
  all_goals first
    | (simp_all [isMk, isIn, I64]; done)
    | (simp_all [isMk, isIn, I64]; omega)
    | trace_state
theorem c_iIsMaker (m : MkM) : Fn Try.prog 46 [eMk m] true (· = eB (isMk m)) := by
  refine Fn.of_vcN 36 [.tmp 2] Try.func46 rfl rfl rfl rfl rfl (of_decide_eq_true rfl) ?_
  simp -dsimp -implicitDefEqProofs only [go_sem, ↓reduceIte, Nat.reduceEqDiff, Nat.reduceLT, Nat.reduceAdd, Nat.reduceMul, Nat.reduceLeDiff, Nat.le_refl, Int.natCast_zero, Int.toNat_natCast, Int.reduceToNat]
  repeat' first
    | (refine Br.intro (fun _ => ?_) (fun _ => ?_) <;> try simp -dsimp -implicitDefEqProofs only [go_sem, ↓reduceIte, Nat.reduceEqDiff, Nat.reduceLT, Nat.reduceAdd, Nat.reduceMul, Nat.reduceLeDiff, Nat.le_refl, Int.natCast_zero, Int.toNat_natCast, Int.reduceToNat, *])
    | (with_reducible refine And.intro ?_ ?_)
    | (refine sCallT_one (c_within _ _ _) ?_; try simp -dsimp -implicitDefEqProofs only [go_sem, ↓reduceIte, Nat.reduceEqDiff, Nat.reduceLT, Nat.reduceAdd, Nat.reduceMul, Nat.reduceLeDiff, Nat.le_refl, Int.natCast_zero, Int.toNat_natCast, Int.reduceToNat, *])
  all_goals first
    | (simp_all [isMk, isIn, I64]; done)
    | (simp_all [isMk, isIn, I64]; omega)
    | trace_state
def riseAt (xs : List Int) (n : Int) (i : Nat) : Bool := decide (0 ≤ xs.getD i 0) && decide (xs.getD i 0 < n) && (i == 0 || decide (xs.getD (i - 1) 0 < xs.getD i 0))
def rises (xs : List Int) (n : Int) : Bool := (List.range xs.length).all (riseAt xs n)
def has (xs : List Int) (x : Int) : Bool := !(xs.all fun y => !(y == x))
end Go.Vc
