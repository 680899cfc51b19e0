/-
  Contracts of the helpers of laws that draw: lists alike, sums; the source that follows from a code.
-/
import Derived.Test.YtphhlffifljciaaSources
set_option linter.unusedVariables false
set_option linter.unusedSimpArgs false
set_option linter.unnecessarySimpa false
namespace Go.Vc
open Go.Proofs
set_option maxRecDepth 100000
theorem c_big (bs : List UInt8) (h : bs.length ≤ 9223372036854775807) : Fn Try.prog 11 [eYs bs] true (· = eB (decide ((bs.length : Int) > 4096))) := by
  refine Fn.of_vcN 6 [.tmp 2] Try.func11 rfl rfl rfl rfl rfl (of_decide_eq_true rfl) ?_
  simp -dsimp -implicitDefEqProofs only [go_sem, ↓reduceIte, Nat.reduceEqDiff, Nat.reduceLT, Nat.reduceAdd, Nat.reduceMul, Nat.reduceLeDiff, Nat.le_refl, Int.natCast_zero, Int.toNat_natCast, Int.reduceToNat]
  repeat' (with_reducible refine And.intro ?_ ?_)
  all_goals first | omega | (simp; done)
theorem c_likeInts (xs ys : List Int) (h : xs.length ≤ 9223372036854775807) : Fn Try.prog 31 [eIs xs, eIs ys] true (· = eB (decide (xs = ys))) := by
  refine Fn.of_vcN 26 [.tmp 4] Try.func31 rfl rfl rfl rfl rfl (of_decide_eq_true rfl) ?_
  simp -dsimp -implicitDefEqProofs only [go_sem, ↓reduceIte, Nat.reduceEqDiff, Nat.reduceLT, Nat.reduceAdd, Nat.reduceMul, Nat.reduceLeDiff, Nat.le_refl, Int.natCast_zero, Int.toNat_natCast, Int.reduceToNat]
  repeat' (refine Br.intro (fun _ => ?_) (fun _ => ?_) <;> try simp -dsimp -implicitDefEqProofs only [go_sem, ↓reduceIte, Nat.reduceEqDiff, Nat.reduceLT, Nat.reduceAdd, Nat.reduceMul, Nat.reduceLeDiff, Nat.le_refl, Int.natCast_zero, Int.toNat_natCast, Int.reduceToNat, *])
  · rw [decide_eq_false]; intro e; subst e; simp_all
  have h1 : xs.length = ys.length := by simp_all <;> omega
  refine Later.up [0, 1] [13] [] xs.length (fun i => xs.take i = ys.take i) (fun i => [(5, eI i)]) (fun _ => []) rfl ?_ rfl (fun i hi hI => ?_) (fun hI => ?_)
  · simp -dsimp -implicitDefEqProofs only [go_sem, ↓reduceIte, Nat.reduceEqDiff, Nat.reduceLT, Nat.reduceAdd, Nat.reduceMul, Nat.reduceLeDiff, Nat.le_refl, Int.natCast_zero, Int.toNat_natCast, Int.reduceToNat]
  · simp -dsimp -implicitDefEqProofs only [pick_nil, pick_cons, look_nil, look_cons, dropB_nil, dropB_cons, inD_nil, inD_cons, inE_nil, inE_cons, or_t_l, or_f_l, Nat.reduceBEq, Nat.reduceDiv, Nat.reduceAdd, beq_self_eq_true, Bool.false_eq_true, Bool.or_false, ↓reduceIte, Nat.reduceEqDiff, List.cons_append, List.nil_append]
    have hy : i < ys.length := by omega
    have no : xs[i] ≠ ys[i] → decide (xs = ys) = false := eq_no hi hy
    have yes : xs[i] = ys[i] → xs.take (i + 1) = ys.take (i + 1) := eq_yes hi hy hI
    simp -dsimp -implicitDefEqProofs only [go_sem, ↓reduceIte, Nat.reduceEqDiff, Nat.reduceLT, Nat.reduceAdd, Nat.reduceMul, Nat.reduceLeDiff, Nat.le_refl, Int.natCast_zero, Int.toNat_natCast, Int.reduceToNat, lt_len hi, get_some hi]
    refine Later.draw mixed rfl ?_
    simp -dsimp -implicitDefEqProofs only [go_sem, ↓reduceIte, Nat.reduceEqDiff, Nat.reduceLT, Nat.reduceAdd, Nat.reduceMul, Nat.reduceLeDiff, Nat.le_refl, Int.natCast_zero, Int.toNat_natCast, Int.reduceToNat, get_some hi, get_some hy]
    repeat' first
      | (refine Br.intro (fun _ => ?_) (fun _ => ?_) <;> try simp -dsimp -implicitDefEqProofs only [go_sem, ↓reduceIte, Nat.reduceEqDiff, Nat.reduceLT, Nat.reduceAdd, Nat.reduceMul, Nat.reduceLeDiff, Nat.le_refl, Int.natCast_zero, Int.toNat_natCast, Int.reduceToNat, *])
      | (with_reducible refine And.intro ?_ ?_)
      | fail
    all_goals first
      | omega
      | (refine ⟨?_, ?_⟩ <;> omega)
      | rfl
      | (simp; done)
      | (rw [no]; clear no yes; simp_all; done)
      | (refine yes ?_; clear no yes; simp_all; done)
  · simp -dsimp -implicitDefEqProofs only [pick_nil, pick_cons, look_nil, look_cons, dropB_nil, dropB_cons, inD_nil, inD_cons, inE_nil, inE_cons, or_t_l, or_f_l, Nat.reduceBEq, Nat.reduceDiv, Nat.reduceAdd, beq_self_eq_true, Bool.false_eq_true, Bool.or_false, ↓reduceIte, Nat.reduceEqDiff, List.cons_append, List.nil_append]
    simp -dsimp -implicitDefEqProofs only [go_sem, ↓reduceIte, Nat.reduceEqDiff, Nat.reduceLT, Nat.reduceAdd, Nat.reduceMul, Nat.reduceLeDiff, Nat.le_refl, Int.natCast_zero, Int.toNat_natCast, Int.reduceToNat, nlt_len]
    have h3 : xs = ys := by rw [← List.take_length (l := xs), hI, h1, List.take_length]
    simp [h3]
theorem c_sum (xs : List Int) (h : xs.length ≤ 1048576) (hx : ∀ x ∈ xs, -1000000 ≤ x ∧ x ≤ 1000000) : Fn Try.prog 32 [eIs xs] true (· = eI xs.sum) := by
  refine Fn.of_vcN 18 [.tmp 2] Try.func32 rfl rfl rfl rfl rfl (of_decide_eq_true rfl) ?_
  have hs : ∀ i, i ≤ xs.length → -1000000 * (i : Int) ≤ (xs.take i).sum ∧ (xs.take i).sum ≤ 1000000 * (i : Int) := by
    intro i
    induction i with
    | zero => intro _; simp
    | succ i ih =>
      intro hi
      have := ih (by omega)
      have h1 := hx xs[i] (List.getElem_mem (by omega))
      rw [List.take_succ_eq_append_getElem (by omega), List.sum_append]
      simp only [List.sum_cons, List.sum_nil]
      omega
  have hn : ∀ i (hi : i < xs.length), (xs.take (i + 1)).sum = (xs.take i).sum + xs[i] := by
    intro i hi
    rw [List.take_succ_eq_append_getElem hi, List.sum_append]; simp
  simp -dsimp -implicitDefEqProofs only [go_sem, ↓reduceIte, Nat.reduceEqDiff, Nat.reduceLT, Nat.reduceAdd, Nat.reduceMul, Nat.reduceLeDiff, Nat.le_refl, Int.natCast_zero, Int.toNat_natCast, Int.reduceToNat]
  refine Later.up [0] [7] [] xs.length (fun _ => True) (fun i => [(4, eI i), (3, eI (xs.take i).sum)]) (fun _ => []) trivial ?_ rfl (fun i hi _ => ?_) (fun _ => ?_)
  · simp -dsimp -implicitDefEqProofs only [go_sem, ↓reduceIte, Nat.reduceEqDiff, Nat.reduceLT, Nat.reduceAdd, Nat.reduceMul, Nat.reduceLeDiff, Nat.le_refl, Int.natCast_zero, Int.toNat_natCast, Int.reduceToNat]
    simp
  · simp -dsimp -implicitDefEqProofs only [pick_nil, pick_cons, look_nil, look_cons, dropB_nil, dropB_cons, inD_nil, inD_cons, inE_nil, inE_cons, or_t_l, or_f_l, Nat.reduceBEq, Nat.reduceDiv, Nat.reduceAdd, beq_self_eq_true, Bool.false_eq_true, Bool.or_false, ↓reduceIte, Nat.reduceEqDiff, List.cons_append, List.nil_append]
    have g1 := hs i (by omega)
    have g2 := hs (i + 1) (by omega)
    have g3 := hn i hi
    clear hs hn
    simp -dsimp -implicitDefEqProofs only [go_sem, ↓reduceIte, Nat.reduceEqDiff, Nat.reduceLT, Nat.reduceAdd, Nat.reduceMul, Nat.reduceLeDiff, Nat.le_refl, Int.natCast_zero, Int.toNat_natCast, Int.reduceToNat, lt_len hi, get_some hi]
    repeat' (with_reducible refine And.intro ?_ ?_)
    all_goals first
      | omega
      | (refine ⟨?_, ?_⟩ <;> omega)
      | (simp [g3]; done)
      | (rw [g3]; done)
      | (rw [g3]; simp; done)
      | trace_state
  · simp -dsimp -implicitDefEqProofs only [pick_nil, pick_cons, look_nil, look_cons, dropB_nil, dropB_cons, inD_nil, inD_cons, inE_nil, inE_cons, or_t_l, or_f_l, Nat.reduceBEq, Nat.reduceDiv, Nat.reduceAdd, beq_self_eq_true, Bool.false_eq_true, Bool.or_false, ↓reduceIte, Nat.reduceEqDiff, List.cons_append, List.nil_append]
    simp -dsimp -implicitDefEqProofs only [go_sem, ↓reduceIte, Nat.reduceEqDiff, Nat.reduceLT, Nat.reduceAdd, Nat.reduceMul, Nat.reduceLeDiff, Nat.le_refl, Int.natCast_zero, Int.toNat_natCast, Int.reduceToNat, nlt_len]
    simp
def seedAt (bs : List UInt8) : Nat → Int
  | 0 => 30011
  | i + 1 => (seedAt bs i * 67 + ((bs.getD i 0).toNat : Int)).tmod 2147483647
theorem seedAt_ok (bs : List UInt8) : ∀ i, 0 ≤ seedAt bs i ∧ seedAt bs i < 2147483647
  | 0 => by simp [seedAt]
  | i + 1 => by
    have h := seedAt_ok bs i
    exact tmod_in (by have := (bs.getD i 0).toNat_lt; omega) (by omega)
def src0 (bs : List UInt8) : Src := ⟨seedAt bs (min bs.length 64), 0⟩
theorem src0_ok (bs : List UInt8) : SrcOk (src0 bs) := seedAt_ok bs _
theorem seedAt_succ {bs : List UInt8} {i : Nat} (h : i < bs.length) : seedAt bs (i + 1) = (seedAt bs i * 67 + ((bs[i]).toNat : Int)).tmod 2147483647 := by
  rw [seedAt, List.getD_eq_getElem?_getD, List.getElem?_eq_getElem h]; rfl
end Go.Vc
