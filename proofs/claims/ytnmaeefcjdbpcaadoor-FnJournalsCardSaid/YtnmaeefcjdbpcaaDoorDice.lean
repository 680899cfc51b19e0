/-
  Contracts: a number below another, as the laws throw it.
-/
import Derived.Test.YtnmaeefcjdbpcaaDoorSrc
import Derived.Test.YtnmaeefcjdbpcaaDoorJLaw
set_option linter.unusedVariables false
set_option linter.unusedSimpArgs false
set_option linter.unnecessarySimpa false
namespace Go.Vc
open Go.Proofs
set_option maxRecDepth 100000
abbrev diceB (v : Nat) (bs : List UInt8) (i h : Int) : Blk := .box v [eYs bs, eI i, .val (.int .u64 h)]
set_option maxHeartbeats 4000000 in
theorem c_below (v : Nat) (bs : List UInt8) (h n : Int) (hn : 0 < n) (hl : bs.length ≤ 4096) :
    FnM Tryd.prog 39 [diceB v bs 0 h] [.ptr 1000000000 v 0 0, eI n] (fun x io => ∃ r i h' : Int, 0 ≤ r ∧ r < n ∧ x = eI r ∧ io = [diceB v bs i h']) := by
  refine FnM.of_vc 56 [.tmp 4] Tryd.func39 rfl rfl rfl rfl rfl (of_decide_eq_true rfl) ?_
  simp -dsimp -implicitDefEqProofs only [go_sem, ↓reduceIte, Nat.reduceEqDiff, Nat.reduceLT, Nat.reduceAdd, Nat.reduceMul, Nat.reduceLeDiff, Nat.le_refl, Int.natCast_zero, Int.toNat_natCast, Int.reduceToNat]
  refine ⟨by omega, ?_⟩
  generalize IntKind.u64.wrap (IntKind.u64.wrap (h * 6364136223846793005) + 1442695040888963407) = H
  generalize H.fdiv (2 ^ min 33 64) = a
  have hx := andB a
  generalize IntKind.u64.wrap ((BitVec.ofInt IntKind.u64.bits a &&& BitVec.ofInt IntKind.u64.bits 16777215).toNat : Int) = y at *
  refine ⟨by refine ⟨?_, ?_⟩ <;> omega, ?_⟩
  refine Later.draw mixed rfl ?_
  rcases hp : decide ((0 : Int) < (bs.length : Int)) with _ | _
  · have hr := tmod_in hx.1 hn
    simp -dsimp -implicitDefEqProofs only [go_sem, ↓reduceIte, Nat.reduceEqDiff, Nat.reduceLT, Nat.reduceAdd, Nat.reduceMul, Nat.reduceLeDiff, Nat.le_refl, Int.natCast_zero, Int.toNat_natCast, Int.reduceToNat, hp]
    repeat' (with_reducible refine And.intro ?_ ?_)
    all_goals try (first | omega | (refine ⟨?_, ?_⟩ <;> omega) | (exact rfl) | (simp; done))
    exact ⟨y.tmod n, 0, H, hr.1, hr.2, rfl, rfl⟩
  · have hp2 := of_decide_eq_true hp
    have g0 : bs[0]? = some (bs[0]'(by omega)) := List.getElem?_eq_getElem (by omega)
    have hb := (bs[0]'(by omega)).toNat_lt
    generalize bs[0]'(by omega) = b at *
    have hr := tmod_in (x := y + (b.toNat : Int)) (by omega) hn
    simp -dsimp -implicitDefEqProofs only [go_sem, ↓reduceIte, Nat.reduceEqDiff, Nat.reduceLT, Nat.reduceAdd, Nat.reduceMul, Nat.reduceLeDiff, Nat.le_refl, Int.natCast_zero, Int.toNat_natCast, Int.reduceToNat, hp]
    repeat' first
      | (with_reducible refine And.intro ?_ ?_)
      | (refine Later.draw mixed rfl ?_; simp -dsimp -implicitDefEqProofs only [go_sem, ↓reduceIte, Nat.reduceEqDiff, Nat.reduceLT, Nat.reduceAdd, Nat.reduceMul, Nat.reduceLeDiff, Nat.le_refl, Int.natCast_zero, Int.toNat_natCast, Int.reduceToNat, g0])
    all_goals try (first | omega | (refine ⟨?_, ?_⟩ <;> omega) | (exact rfl) | (simp; done))
    exact ⟨(y + (b.toNat : Int)).tmod n, 1, H, hr.1, hr.2, rfl, rfl⟩
end Go.Vc
