/-
  Contracts of the functions on makers and locks.
-/
import Derived.Test.YtponkoaomcgohaaMaker
set_option linter.unusedVariables false
set_option linter.unusedSimpArgs false
set_option linter.unnecessarySimpa false
namespace Go.Vc
open Go.Proofs
set_option maxRecDepth 100000
def lockSet (m : MkM) (xs : List Int) : Bool := decide (xs.length ≠ 0) && rises xs m.depths
def isLk0 (m : MkM) (l : List (List Int)) : Bool := ((l.length : Int) == m.chambers) && l.all (lockSet m)
def isLk (m : MkM) (l : List (List Int)) : Bool := isMk m && isLk0 m l
theorem c_sIsLock (m : MkM) (l : List (List Int)) (h : l.length ≤ 1048576) (h2 : ∀ x ∈ l, x.length ≤ 1048576) : Fn Try.prog 80 [eMk m, eLk l] true (· = eB (isLk m l)) := by
  refine Fn.of_vcN 42 [.tmp 4] Try.func80 rfl rfl rfl rfl rfl (of_decide_eq_true rfl) ?_
  simp -dsimp -implicitDefEqProofs only [go_sem, ↓reduceIte, Nat.reduceEqDiff, Nat.reduceLT, Nat.reduceAdd, Nat.reduceMul, Nat.reduceLeDiff, Nat.le_refl, Int.natCast_zero, Int.toNat_natCast, Int.reduceToNat]
  repeat' first
    | (refine Br.intro (fun _ => ?_) (fun _ => ?_) <;> try simp -dsimp -implicitDefEqProofs only [go_sem, ↓reduceIte, Nat.reduceEqDiff, Nat.reduceLT, Nat.reduceAdd, Nat.reduceMul, Nat.reduceLeDiff, Nat.le_refl, Int.natCast_zero, Int.toNat_natCast, Int.reduceToNat, *])
    | (with_reducible refine And.intro ?_ ?_)
    | (refine sCallT_one (c_sIsMaker _) ?_; try simp -dsimp -implicitDefEqProofs only [go_sem, ↓reduceIte, Nat.reduceEqDiff, Nat.reduceLT, Nat.reduceAdd, Nat.reduceMul, Nat.reduceLeDiff, Nat.le_refl, Int.natCast_zero, Int.toNat_natCast, Int.reduceToNat, *])
  all_goals try (first | omega | (simp_all [isLk, isLk0]; done))
  refine Later.up [2, 3] [20, 29, 39] [] l.length (fun i => (l.take i).all (lockSet m)) (fun i => [(5, eI i)]) (fun _ => []) (by simp) ?_ rfl (fun i hi hI => ?_) (fun hI => ?_)
  · simp -dsimp -implicitDefEqProofs only [go_sem, ↓reduceIte, Nat.reduceEqDiff, Nat.reduceLT, Nat.reduceAdd, Nat.reduceMul, Nat.reduceLeDiff, Nat.le_refl, Int.natCast_zero, Int.toNat_natCast, Int.reduceToNat]
  · simp -dsimp -implicitDefEqProofs only [pick_nil, pick_cons, look_nil, look_cons, dropB_nil, dropB_cons, inD_nil, inD_cons, inE_nil, inE_cons, or_t_l, or_f_l, Nat.reduceBEq, Nat.reduceDiv, Nat.reduceAdd, beq_self_eq_true, Bool.false_eq_true, Bool.or_false, ↓reduceIte, Nat.reduceEqDiff, List.cons_append, List.nil_append]
    have gi := get_some hi
    have li := lt_len hi
    have no : lockSet m l[i] = false → isLk m l = false := fun h => by simp [isLk, isLk0, lockSet, all_no (p := lockSet m) hi h]
    have yes : lockSet m l[i] = true → ((l.take (i + 1)).all (lockSet m)) = true := fun h => by rw [all_take _ _ _ hi, hI]; simpa using h
    simp -dsimp -implicitDefEqProofs only [go_sem, ↓reduceIte, Nat.reduceEqDiff, Nat.reduceLT, Nat.reduceAdd, Nat.reduceMul, Nat.reduceLeDiff, Nat.le_refl, Int.natCast_zero, Int.toNat_natCast, Int.reduceToNat, li, gi]
    repeat' first
      | (refine Br.intro (fun _ => ?_) (fun _ => ?_) <;> try simp -dsimp -implicitDefEqProofs only [go_sem, ↓reduceIte, Nat.reduceEqDiff, Nat.reduceLT, Nat.reduceAdd, Nat.reduceMul, Nat.reduceLeDiff, Nat.le_refl, Int.natCast_zero, Int.toNat_natCast, Int.reduceToNat, *])
      | (with_reducible refine And.intro ?_ ?_)
      | (refine sCallT_one (c_l01Rises l[i] _ (by have := h2 l[i] (List.getElem_mem hi); omega)) ?_; try simp -dsimp -implicitDefEqProofs only [go_sem, ↓reduceIte, Nat.reduceEqDiff, Nat.reduceLT, Nat.reduceAdd, Nat.reduceMul, Nat.reduceLeDiff, Nat.le_refl, Int.natCast_zero, Int.toNat_natCast, Int.reduceToNat, *])
      | (refine sCallX_one (c_l01Rises l[i] _ (by have := h2 l[i] (List.getElem_mem hi); omega)) ?_; try simp -dsimp -implicitDefEqProofs only [go_sem, ↓reduceIte, Nat.reduceEqDiff, Nat.reduceLT, Nat.reduceAdd, Nat.reduceMul, Nat.reduceLeDiff, Nat.le_refl, Int.natCast_zero, Int.toNat_natCast, Int.reduceToNat, *])
      | (refine Later.draw mixed rfl ?_; try simp -dsimp -implicitDefEqProofs only [go_sem, ↓reduceIte, Nat.reduceEqDiff, Nat.reduceLT, Nat.reduceAdd, Nat.reduceMul, Nat.reduceLeDiff, Nat.le_refl, Int.natCast_zero, Int.toNat_natCast, Int.reduceToNat, *])
    all_goals first
      | omega
      | (refine ⟨?_, ?_⟩ <;> omega)
      | (simp; done)
      | rfl
      | (rw [no]; clear no yes; simp_all [isLk, isLk0, lockSet]; done) | (rw [no]; clear no yes; simp_all [isLk, isLk0, lockSet]; omega) | (refine yes ?_; clear no yes; simp_all [isLk, isLk0, lockSet]; done) | (refine yes ?_; clear no yes; simp_all [isLk, isLk0, lockSet]; omega)
      | trace_state
  · simp -dsimp -implicitDefEqProofs only [pick_nil, pick_cons, look_nil, look_cons, dropB_nil, dropB_cons, inD_nil, inD_cons, inE_nil, inE_cons, or_t_l, or_f_l, Nat.reduceBEq, Nat.reduceDiv, Nat.reduceAdd, beq_self_eq_true, Bool.false_eq_true, Bool.or_false, ↓reduceIte, Nat.reduceEqDiff, List.cons_append, List.nil_append]
    simp -dsimp -implicitDefEqProofs only [go_sem, ↓reduceIte, Nat.reduceEqDiff, Nat.reduceLT, Nat.reduceAdd, Nat.reduceMul, Nat.reduceLeDiff, Nat.le_refl, Int.natCast_zero, Int.toNat_natCast, Int.reduceToNat, nlt_len]
    rw [List.take_length] at hI
    first
      | (simp_all [isLk, isLk0]; done)
      | (simp_all [isLk, isLk0]; omega)
      | trace_state
theorem c_isLock (m : MkM) (l : List (List Int)) (h : l.length ≤ 1048576) (h2 : ∀ x ∈ l, x.length ≤ 1048576) : Fn Try.prog 104 [eMk m, eLk l] true (· = eB (isLk0 m l)) := by
  refine Fn.of_vcN 31 [.tmp 4] Try.func104 rfl rfl rfl rfl rfl (of_decide_eq_true rfl) ?_
  simp -dsimp -implicitDefEqProofs only [go_sem, ↓reduceIte, Nat.reduceEqDiff, Nat.reduceLT, Nat.reduceAdd, Nat.reduceMul, Nat.reduceLeDiff, Nat.le_refl, Int.natCast_zero, Int.toNat_natCast, Int.reduceToNat]
  refine Later.up [2, 3, 8, 9] [15, 21] [] l.length (fun i => (l.take i).all (lockSet m)) (fun i => [(10, eI i)]) (fun _ => []) (by simp) ?_ rfl (fun i hi hI => ?_) (fun hI => ?_)
  · simp -dsimp -implicitDefEqProofs only [go_sem, ↓reduceIte, Nat.reduceEqDiff, Nat.reduceLT, Nat.reduceAdd, Nat.reduceMul, Nat.reduceLeDiff, Nat.le_refl, Int.natCast_zero, Int.toNat_natCast, Int.reduceToNat]
  · simp -dsimp -implicitDefEqProofs only [pick_nil, pick_cons, look_nil, look_cons, dropB_nil, dropB_cons, inD_nil, inD_cons, inE_nil, inE_cons, or_t_l, or_f_l, Nat.reduceBEq, Nat.reduceDiv, Nat.reduceAdd, beq_self_eq_true, Bool.false_eq_true, Bool.or_false, ↓reduceIte, Nat.reduceEqDiff, List.cons_append, List.nil_append]
    have gi := get_some hi
    have li := lt_len hi
    have no : lockSet m l[i] = false → isLk0 m l = false := fun h => by simp [isLk0, lockSet, all_no (p := lockSet m) hi h]
    have yes : lockSet m l[i] = true → ((l.take (i + 1)).all (lockSet m)) = true := fun h => by rw [all_take _ _ _ hi, hI]; simpa using h
    simp -dsimp -implicitDefEqProofs only [go_sem, ↓reduceIte, Nat.reduceEqDiff, Nat.reduceLT, Nat.reduceAdd, Nat.reduceMul, Nat.reduceLeDiff, Nat.le_refl, Int.natCast_zero, Int.toNat_natCast, Int.reduceToNat, li, gi]
    repeat' first
      | (refine Br.intro (fun _ => ?_) (fun _ => ?_) <;> try simp -dsimp -implicitDefEqProofs only [go_sem, ↓reduceIte, Nat.reduceEqDiff, Nat.reduceLT, Nat.reduceAdd, Nat.reduceMul, Nat.reduceLeDiff, Nat.le_refl, Int.natCast_zero, Int.toNat_natCast, Int.reduceToNat, *])
      | (with_reducible refine And.intro ?_ ?_)
      | (refine sCallT_one (c_IsRising l[i] _ (by have := h2 l[i] (List.getElem_mem hi); omega)) ?_; try simp -dsimp -implicitDefEqProofs only [go_sem, ↓reduceIte, Nat.reduceEqDiff, Nat.reduceLT, Nat.reduceAdd, Nat.reduceMul, Nat.reduceLeDiff, Nat.le_refl, Int.natCast_zero, Int.toNat_natCast, Int.reduceToNat, *])
      | (refine sCallX_one (c_IsRising l[i] _ (by have := h2 l[i] (List.getElem_mem hi); omega)) ?_; try simp -dsimp -implicitDefEqProofs only [go_sem, ↓reduceIte, Nat.reduceEqDiff, Nat.reduceLT, Nat.reduceAdd, Nat.reduceMul, Nat.reduceLeDiff, Nat.le_refl, Int.natCast_zero, Int.toNat_natCast, Int.reduceToNat, *])
      | (refine Later.draw mixed rfl ?_; try simp -dsimp -implicitDefEqProofs only [go_sem, ↓reduceIte, Nat.reduceEqDiff, Nat.reduceLT, Nat.reduceAdd, Nat.reduceMul, Nat.reduceLeDiff, Nat.le_refl, Int.natCast_zero, Int.toNat_natCast, Int.reduceToNat, *])
    all_goals first
      | omega
      | (refine ⟨?_, ?_⟩ <;> omega)
      | (simp; done)
      | rfl
      | (rw [no]; clear no yes; simp_all [isLk0, lockSet]; done) | (rw [no]; clear no yes; simp_all [isLk0, lockSet]; omega) | (refine yes ?_; clear no yes; simp_all [isLk0, lockSet]; done) | (refine yes ?_; clear no yes; simp_all [isLk0, lockSet]; omega)
      | trace_state
  · simp -dsimp -implicitDefEqProofs only [pick_nil, pick_cons, look_nil, look_cons, dropB_nil, dropB_cons, inD_nil, inD_cons, inE_nil, inE_cons, or_t_l, or_f_l, Nat.reduceBEq, Nat.reduceDiv, Nat.reduceAdd, beq_self_eq_true, Bool.false_eq_true, Bool.or_false, ↓reduceIte, Nat.reduceEqDiff, List.cons_append, List.nil_append]
    simp -dsimp -implicitDefEqProofs only [go_sem, ↓reduceIte, Nat.reduceEqDiff, Nat.reduceLT, Nat.reduceAdd, Nat.reduceMul, Nat.reduceLeDiff, Nat.le_refl, Int.natCast_zero, Int.toNat_natCast, Int.reduceToNat, nlt_len]
    rw [List.take_length] at hI
    first
      | (simp_all [isLk, isLk0]; done)
      | (simp_all [isLk, isLk0]; omega)
      | trace_state
def lkCodes (m : MkM) (ls : List (List (List Int))) : Int := if isMk m && ls.all (isLk0 m) then 0 else 1
theorem lkCodes_no {m : MkM} {ls : List (List (List Int))} {i : Nat} (hi : i < ls.length) (h : isLk0 m ls[i] = false) : lkCodes m ls = 1 := by
  rw [lkCodes, all_no hi h]; simp
theorem lkCodes_one (m : MkM) (l : List (List Int)) : lkCodes m [l] = if isLk m l then 0 else 1 := by simp [lkCodes, isLk]
theorem c_locksCode (m : MkM) (ls : List (List (List Int))) (h0 : ls.length ≤ 1048576) (h : ∀ l ∈ ls, l.length ≤ 1048576 ∧ ∀ x ∈ l, x.length ≤ 1048576) : Fn Try.prog 83 [eMk m, .arr ⟨1, true⟩ (ls.map eLk)] true (· = eI (lkCodes m ls)) := by
  refine Fn.of_vcN 21 [.tmp 4] Try.func83 rfl rfl rfl rfl rfl (of_decide_eq_true rfl) ?_
  simp -dsimp -implicitDefEqProofs only [go_sem, ↓reduceIte, Nat.reduceEqDiff, Nat.reduceLT, Nat.reduceAdd, Nat.reduceMul, Nat.reduceLeDiff, Nat.le_refl, Int.natCast_zero, Int.toNat_natCast, Int.reduceToNat]
  repeat' first
    | (refine Br.intro (fun _ => ?_) (fun _ => ?_) <;> try simp -dsimp -implicitDefEqProofs only [go_sem, ↓reduceIte, Nat.reduceEqDiff, Nat.reduceLT, Nat.reduceAdd, Nat.reduceMul, Nat.reduceLeDiff, Nat.le_refl, Int.natCast_zero, Int.toNat_natCast, Int.reduceToNat, *])
    | (with_reducible refine And.intro ?_ ?_)
    | (refine sCallT_one (c_iIsMaker _) ?_; try simp -dsimp -implicitDefEqProofs only [go_sem, ↓reduceIte, Nat.reduceEqDiff, Nat.reduceLT, Nat.reduceAdd, Nat.reduceMul, Nat.reduceLeDiff, Nat.le_refl, Int.natCast_zero, Int.toNat_natCast, Int.reduceToNat, *])
  all_goals try (first | omega | (simp_all [lkCodes]; done))
  refine Later.up [2, 10, 11] [6, 18] [] ls.length (fun i => (ls.take i).all (isLk0 m)) (fun i => [(12, eI i)]) (fun _ => []) (by simp) ?_ rfl (fun i hi hI => ?_) (fun hI => ?_)
  · simp -dsimp -implicitDefEqProofs only [go_sem, ↓reduceIte, Nat.reduceEqDiff, Nat.reduceLT, Nat.reduceAdd, Nat.reduceMul, Nat.reduceLeDiff, Nat.le_refl, Int.natCast_zero, Int.toNat_natCast, Int.reduceToNat]
  · have hx := h ls[i] (List.getElem_mem hi)
    have no := fun h => lkCodes_no (m := m) hi h
    have yes : isLk0 m ls[i] = true → ((ls.take (i + 1)).all (isLk0 m)) = true := fun h => by rw [all_take _ _ _ hi, hI, h]; rfl
    simp -dsimp -implicitDefEqProofs only [pick_nil, pick_cons, look_nil, look_cons, dropB_nil, dropB_cons, inD_nil, inD_cons, inE_nil, inE_cons, or_t_l, or_f_l, Nat.reduceBEq, Nat.reduceDiv, Nat.reduceAdd, beq_self_eq_true, Bool.false_eq_true, Bool.or_false, ↓reduceIte, Nat.reduceEqDiff, List.cons_append, List.nil_append]
    simp -dsimp -implicitDefEqProofs only [go_sem, ↓reduceIte, Nat.reduceEqDiff, Nat.reduceLT, Nat.reduceAdd, Nat.reduceMul, Nat.reduceLeDiff, Nat.le_refl, Int.natCast_zero, Int.toNat_natCast, Int.reduceToNat, lt_len hi, get_some hi]
    repeat' first
      | (refine Br.intro (fun _ => ?_) (fun _ => ?_) <;> try simp -dsimp -implicitDefEqProofs only [go_sem, ↓reduceIte, Nat.reduceEqDiff, Nat.reduceLT, Nat.reduceAdd, Nat.reduceMul, Nat.reduceLeDiff, Nat.le_refl, Int.natCast_zero, Int.toNat_natCast, Int.reduceToNat, *])
      | (with_reducible refine And.intro ?_ ?_)
      | (refine sCallT_one (c_isLock m ls[i] hx.1 hx.2) ?_; try simp -dsimp -implicitDefEqProofs only [go_sem, ↓reduceIte, Nat.reduceEqDiff, Nat.reduceLT, Nat.reduceAdd, Nat.reduceMul, Nat.reduceLeDiff, Nat.le_refl, Int.natCast_zero, Int.toNat_natCast, Int.reduceToNat, *])
    all_goals first
      | omega
      | (refine ⟨?_, ?_⟩ <;> omega)
      | (simp; done)
      | (rw [no]; clear no yes; simp_all []; done) | (rw [no]; clear no yes; simp_all []; omega) | (refine yes ?_; clear no yes; simp_all []; done) | (refine yes ?_; clear no yes; simp_all []; omega)
      | trace_state
  · simp -dsimp -implicitDefEqProofs only [pick_nil, pick_cons, look_nil, look_cons, dropB_nil, dropB_cons, inD_nil, inD_cons, inE_nil, inE_cons, or_t_l, or_f_l, Nat.reduceBEq, Nat.reduceDiv, Nat.reduceAdd, beq_self_eq_true, Bool.false_eq_true, Bool.or_false, ↓reduceIte, Nat.reduceEqDiff, List.cons_append, List.nil_append]
    simp -dsimp -implicitDefEqProofs only [go_sem, ↓reduceIte, Nat.reduceEqDiff, Nat.reduceLT, Nat.reduceAdd, Nat.reduceMul, Nat.reduceLeDiff, Nat.le_refl, Int.natCast_zero, Int.toNat_natCast, Int.reduceToNat, nlt_len]
    rw [List.take_length] at hI
    first
      | (simp_all [lkCodes]; done)
      | trace_state
def isCuts (m : MkM) (d : List Int) : Bool := ((d.length : Int) == m.chambers) && d.all fun x => isIn x 0 (m.depths - 1)
end Go.Vc
