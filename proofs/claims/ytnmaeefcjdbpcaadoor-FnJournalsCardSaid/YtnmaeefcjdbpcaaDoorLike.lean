/-
  Contracts of the helpers of laws that draw: lists alike, sums; the source that follows from a code.
-/
import Derived.Test.YtnmaeefcjdbpcaaDoorSrc2
set_option linter.unusedVariables false
set_option linter.unusedSimpArgs false
set_option linter.unnecessarySimpa false
namespace Go.Vc
open Go.Proofs
set_option maxRecDepth 100000
theorem c_big (bs : List UInt8) (h : bs.length ≤ 9223372036854775807) : Fn Tryd.prog 34 [eYs bs] true (· = eB (decide ((bs.length : Int) > 4096))) := by
  refine Fn.of_vcN 6 [.tmp 2] Tryd.func34 rfl rfl rfl rfl rfl (of_decide_eq_true rfl) ?_
  simp -dsimp -implicitDefEqProofs only [go_sem, ↓reduceIte, Nat.reduceEqDiff, Nat.reduceLT, Nat.reduceAdd, Nat.reduceMul, Nat.reduceLeDiff, Nat.le_refl, Int.natCast_zero, Int.toNat_natCast, Int.reduceToNat]
  repeat' (with_reducible refine And.intro ?_ ?_)
  all_goals first | omega | (simp; done)
def seedAt (bs : List UInt8) : Nat → Int
  | 0 => 30011
  | i + 1 => (seedAt bs i * 67 + ((bs.getD i 0).toNat : Int)).tmod 2147483647
theorem seedAt_ok (bs : List UInt8) : ∀ i, 0 ≤ seedAt bs i ∧ seedAt bs i < 2147483647
  | 0 => by simp [seedAt]
  | i + 1 => by
    have h := seedAt_ok bs i
    exact tmod_in (by have := (bs.getD i 0).toNat_lt; omega) (by omega)
def src0 (bs : List UInt8) : Src := ⟨seedAt bs (min bs.length 64), 0⟩
theorem src0_ok (bs : List UInt8) : SrcOk (src0 bs) := seedAt_ok bs _
theorem seedAt_succ {bs : List UInt8} {i : Nat} (h : i < bs.length) : seedAt bs (i + 1) = (seedAt bs i * 67 + ((bs[i]).toNat : Int)).tmod 2147483647 := by
  rw [seedAt, List.getD_eq_getElem?_getD, List.getElem?_eq_getElem h]; rfl
end Go.Vc
