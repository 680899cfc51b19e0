/-
  Contracts: keys of a maker; desks.
-/
import Derived.Test.YtlelhmbhhnokoaaDoorSys
set_option linter.unusedVariables false
set_option linter.unusedSimpArgs false
set_option linter.unnecessarySimpa false
namespace Go.Vc
open Go.Proofs
set_option maxRecDepth 100000
set_option maxHeartbeats 2000000
attribute [go_sem] Option.map_none Nat.sub_zero
def absN (x : Int) : Int := if x < -x then -x else x
def runAt (c : List Int) : Nat → Nat
  | 0 => 1
  | i + 1 => if c.getD (i + 1) 0 = c.getD i 0 then runAt c i + 1 else 1
theorem runAt_spec (c : List Int) (i : Nat) : 1 ≤ runAt c i ∧ runAt c i ≤ i + 1 ∧ (∀ j, j < runAt c i → c.getD (i - j) 0 = c.getD i 0) ∧ (runAt c i < i + 1 → c.getD (i - runAt c i) 0 ≠ c.getD i 0) := by
  induction i with
  | zero => exact ⟨Nat.le_refl _, Nat.le_refl _, fun j hj => by simp [runAt] at hj; subst hj; rfl, fun h => by simp [runAt] at h⟩
  | succ i ih =>
    obtain ⟨h1, h2, h3, h4⟩ := ih
    simp only [runAt]
    split
    · rename_i e
      refine ⟨by omega, by omega, fun j hj => ?_, fun hj => ?_⟩
      · rw [e]
        cases j with
        | zero => exact e
        | succ j => rw [show i + 1 - (j + 1) = i - j by omega]; exact h3 j (by omega)
      · rw [e, show i + 1 - (runAt c i + 1) = i - runAt c i by omega]; exact h4 (by omega)
    · rename_i e
      refine ⟨by omega, by omega, fun j hj => ?_, fun _ => ?_⟩
      · have : j = 0 := by omega
        subst this; rfl
      · show c.getD i 0 ≠ _
        exact fun h => e h.symm
theorem runAt_take (c : List Int) (n i : Nat) (h : i < n) : runAt (c.take n) i = runAt c i := by
  have g : ∀ j, j < n → (c.take n).getD j 0 = c.getD j 0 := fun j hj => by simp [List.getD_eq_getElem?_getD, List.getElem?_take, hj]
  induction i with
  | zero => rfl
  | succ i ih => simp only [runAt]; rw [g (i + 1) h, g i (by omega), ih (by omega)]
def runTo (c : List Int) (i : Nat) : Nat := if i = 0 then 0 else runAt c (i - 1)
def mostTo (c : List Int) : Nat → Nat
  | 0 => 0
  | i + 1 => if mostTo c i < runAt c i then runAt c i else mostTo c i
theorem mostTo_le (c : List Int) (s : Int) (hs : 0 ≤ s) (n : Nat) : decide ((mostTo c n : Int) > s) = !((List.range n).all fun i => decide ((runAt c i : Int) ≤ s)) := by
  induction n with
  | zero => simp [mostTo]; omega
  | succ n ih =>
    rw [range_all_succ, Bool.not_and, ← ih]
    simp only [mostTo]
    split
    · by_cases h : (runAt c n : Int) ≤ s
      · rw [decide_eq_true h, decide_eq_false (show ¬ (mostTo c n : Int) > s by omega), decide_eq_false (show ¬ (runAt c n : Int) > s by omega)]; rfl
      · rw [decide_eq_false h, decide_eq_true (show (runAt c n : Int) > s by omega)]; simp
    · by_cases h : (runAt c n : Int) ≤ s
      · rw [decide_eq_true h]; simp
      · rw [decide_eq_false h, decide_eq_true (show (mostTo c n : Int) > s by omega)]; simp
def stepAt (m : MkM) (c : List Int) (i : Nat) : Bool := i == 0 || decide (absN (c.getD i 0 - c.getD (i - 1) 0) ≤ m.step)
def kindsTo (c : List Int) (n : Nat) : Nat := ((List.range n).filter fun i => !has (c.take i) (c.getD i 0)).length
theorem kindsTo_succ (c : List Int) (i : Nat) (h : i < c.length) : (kindsTo c (i + 1) : Int) = if (!has (c.take i) c[i]) = true then (kindsTo c i : Int) + 1 else kindsTo c i := by
  have g : c.getD i 0 = c[i] := by simp [List.getD_eq_getElem?_getD, h]
  rw [kindsTo, List.range_succ, List.filter_append, List.filter_cons, g]
  split <;> simp [kindsTo]
theorem kindsTo_le (c : List Int) (i : Nat) : kindsTo c i ≤ i := by
  rw [kindsTo]; exact Nat.le_trans (List.length_filter_le _ _) (by simp)
def fault (m : MkM) (c : List Int) : Int :=
  if (c.length : Int) ≠ m.chambers then 1
  else if (c.all fun x => isIn x 0 (m.depths - 1)) = false then 2
  else if ((List.range c.length).all (stepAt m c)) = false then 3
  else if ((List.range c.length).all fun i => decide ((runAt c i : Int) ≤ m.same)) = false then 4
  else if (kindsTo c c.length : Int) < m.least then 5 else 0
attribute [irreducible] runAt mostTo kindsTo
theorem c_l01Abs (x : Int) (h : -1000 ≤ x ∧ x ≤ 1000) : Fn Tryd.prog 93 [eI x] true (· = eI (absN x)) := by
  refine Fn.of_vcN 7 [.tmp 2] Tryd.func93 rfl rfl rfl rfl rfl (of_decide_eq_true rfl) ?_
  simp -dsimp -implicitDefEqProofs only [go_sem, ↓reduceIte, Nat.reduceEqDiff, Nat.reduceLT, Nat.reduceAdd, Nat.reduceMul, Nat.reduceLeDiff, Nat.le_refl, Int.natCast_zero, Int.toNat_natCast, Int.reduceToNat]
  repeat' first
    | (refine Br.intro (fun _ => ?_) (fun _ => ?_) <;> try simp -dsimp -implicitDefEqProofs only [go_sem, ↓reduceIte, Nat.reduceEqDiff, Nat.reduceLT, Nat.reduceAdd, Nat.reduceMul, Nat.reduceLeDiff, Nat.le_refl, Int.natCast_zero, Int.toNat_natCast, Int.reduceToNat, *])
    | (with_reducible refine And.intro ?_ ?_)
  all_goals first | omega | (refine ⟨?_, ?_⟩ <;> omega) | rfl | (simp; done) | (simp_all [absN]; done) | (simp_all [absN]; omega) | (simp_all [absN]; split <;> simp_all <;> omega) | trace_state
theorem c_absolute (x : Int) (h : -1000 ≤ x ∧ x ≤ 1000) : Fn Tryd.prog 100 [eI x] true (· = eI (absN x)) := by
  refine Fn.of_vcN 7 [.tmp 2] Tryd.func100 rfl rfl rfl rfl rfl (of_decide_eq_true rfl) ?_
  simp -dsimp -implicitDefEqProofs only [go_sem, ↓reduceIte, Nat.reduceEqDiff, Nat.reduceLT, Nat.reduceAdd, Nat.reduceMul, Nat.reduceLeDiff, Nat.le_refl, Int.natCast_zero, Int.toNat_natCast, Int.reduceToNat]
  repeat' first
    | (refine Br.intro (fun _ => ?_) (fun _ => ?_) <;> try simp -dsimp -implicitDefEqProofs only [go_sem, ↓reduceIte, Nat.reduceEqDiff, Nat.reduceLT, Nat.reduceAdd, Nat.reduceMul, Nat.reduceLeDiff, Nat.le_refl, Int.natCast_zero, Int.toNat_natCast, Int.reduceToNat, *])
    | (with_reducible refine And.intro ?_ ?_)
  all_goals first | omega | (refine ⟨?_, ?_⟩ <;> omega) | rfl | (simp; done) | (simp_all [absN]; done) | (simp_all [absN]; omega) | (simp_all [absN]; split <;> simp_all <;> omega) | trace_state
theorem c_l02Kinds (c : List Int) (h : c.length ≤ 1048576) : Fn Tryd.prog 75 [eIs c] true (· = eI (kindsTo c c.length)) := by
  refine Fn.of_vcN 23 [.tmp 2] Tryd.func75 rfl rfl rfl rfl rfl (of_decide_eq_true rfl) ?_
  simp -dsimp -implicitDefEqProofs only [go_sem, ↓reduceIte, Nat.reduceEqDiff, Nat.reduceLT, Nat.reduceAdd, Nat.reduceMul, Nat.reduceLeDiff, Nat.le_refl, Int.natCast_zero, Int.toNat_natCast, Int.reduceToNat]
  refine Later.up [0] [7, 18] [] c.length (fun _ => True) (fun i => [(4, eI i), (3, eI (kindsTo c i))]) (fun _ => []) trivial ?_ rfl (fun i hi _ => ?_) (fun _ => ?_)
  · simp -dsimp -implicitDefEqProofs only [go_sem, ↓reduceIte, Nat.reduceEqDiff, Nat.reduceLT, Nat.reduceAdd, Nat.reduceMul, Nat.reduceLeDiff, Nat.le_refl, Int.natCast_zero, Int.toNat_natCast, Int.reduceToNat]
    all_goals first | (simp [kindsTo]; done) | trace_state
  · have gi := get_some hi
    have li := lt_len hi
    have hs := kindsTo_succ c i hi
    have hle := kindsTo_le c i
    simp -dsimp -implicitDefEqProofs only [pick_nil, pick_cons, look_nil, look_cons, dropB_nil, dropB_cons, inD_nil, inD_cons, inE_nil, inE_cons, or_t_l, or_f_l, Nat.reduceBEq, Nat.reduceDiv, Nat.reduceAdd, beq_self_eq_true, Bool.false_eq_true, Bool.or_false, ↓reduceIte, Nat.reduceEqDiff, List.cons_append, List.nil_append]
    rw [hs]
    clear hs
    simp -dsimp -implicitDefEqProofs only [go_sem, ↓reduceIte, Nat.reduceEqDiff, Nat.reduceLT, Nat.reduceAdd, Nat.reduceMul, Nat.reduceLeDiff, Nat.le_refl, Int.natCast_zero, Int.toNat_natCast, Int.reduceToNat, li, gi]
    repeat' first
      | (refine Br.intro (fun _ => ?_) (fun _ => ?_) <;> try simp -dsimp -implicitDefEqProofs only [go_sem, ↓reduceIte, Nat.reduceEqDiff, Nat.reduceLT, Nat.reduceAdd, Nat.reduceMul, Nat.reduceLeDiff, Nat.le_refl, Int.natCast_zero, Int.toNat_natCast, Int.reduceToNat, *])
      | (with_reducible refine And.intro ?_ ?_)
      | (refine Later.draw mixed rfl ?_; try simp -dsimp -implicitDefEqProofs only [go_sem, ↓reduceIte, Nat.reduceEqDiff, Nat.reduceLT, Nat.reduceAdd, Nat.reduceMul, Nat.reduceLeDiff, Nat.le_refl, Int.natCast_zero, Int.toNat_natCast, Int.reduceToNat, *])
      | (rw [← List.map_take]; refine sCallX_one (c_l01Has (c.take i) c[i] (by simp; omega)) ?_; try simp -dsimp -implicitDefEqProofs only [go_sem, ↓reduceIte, Nat.reduceEqDiff, Nat.reduceLT, Nat.reduceAdd, Nat.reduceMul, Nat.reduceLeDiff, Nat.le_refl, Int.natCast_zero, Int.toNat_natCast, Int.reduceToNat, *])
    all_goals first
      | omega | (refine ⟨?_, ?_⟩ <;> omega) | (simp; done) | (simp; omega)
      | rfl
      | (simp_all; done)
      | (simp_all; omega)
      | trace_state
  · have hle := kindsTo_le c c.length
    simp -dsimp -implicitDefEqProofs only [pick_nil, pick_cons, look_nil, look_cons, dropB_nil, dropB_cons, inD_nil, inD_cons, inE_nil, inE_cons, or_t_l, or_f_l, Nat.reduceBEq, Nat.reduceDiv, Nat.reduceAdd, beq_self_eq_true, Bool.false_eq_true, Bool.or_false, ↓reduceIte, Nat.reduceEqDiff, List.cons_append, List.nil_append]
    simp -dsimp -implicitDefEqProofs only [go_sem, ↓reduceIte, Nat.reduceEqDiff, Nat.reduceLT, Nat.reduceAdd, Nat.reduceMul, Nat.reduceLeDiff, Nat.le_refl, Int.natCast_zero, Int.toNat_natCast, Int.reduceToNat, nlt_len]
theorem c_different (c : List Int) (h : c.length ≤ 1048576) : Fn Tryd.prog 99 [eIs c] true (· = eI (kindsTo c c.length)) := by
  refine Fn.of_vcN 23 [.tmp 2] Tryd.func99 rfl rfl rfl rfl rfl (of_decide_eq_true rfl) ?_
  simp -dsimp -implicitDefEqProofs only [go_sem, ↓reduceIte, Nat.reduceEqDiff, Nat.reduceLT, Nat.reduceAdd, Nat.reduceMul, Nat.reduceLeDiff, Nat.le_refl, Int.natCast_zero, Int.toNat_natCast, Int.reduceToNat]
  refine Later.up [0, 6, 7] [17] [] c.length (fun _ => True) (fun i => [(8, eI i), (3, eI (kindsTo c i))]) (fun _ => []) trivial ?_ rfl (fun i hi _ => ?_) (fun _ => ?_)
  · simp -dsimp -implicitDefEqProofs only [go_sem, ↓reduceIte, Nat.reduceEqDiff, Nat.reduceLT, Nat.reduceAdd, Nat.reduceMul, Nat.reduceLeDiff, Nat.le_refl, Int.natCast_zero, Int.toNat_natCast, Int.reduceToNat]
    all_goals first | (simp [kindsTo]; done) | trace_state
  · have gi := get_some hi
    have li := lt_len hi
    have hs := kindsTo_succ c i hi
    have hle := kindsTo_le c i
    simp -dsimp -implicitDefEqProofs only [pick_nil, pick_cons, look_nil, look_cons, dropB_nil, dropB_cons, inD_nil, inD_cons, inE_nil, inE_cons, or_t_l, or_f_l, Nat.reduceBEq, Nat.reduceDiv, Nat.reduceAdd, beq_self_eq_true, Bool.false_eq_true, Bool.or_false, ↓reduceIte, Nat.reduceEqDiff, List.cons_append, List.nil_append]
    rw [hs]
    clear hs
    simp -dsimp -implicitDefEqProofs only [go_sem, ↓reduceIte, Nat.reduceEqDiff, Nat.reduceLT, Nat.reduceAdd, Nat.reduceMul, Nat.reduceLeDiff, Nat.le_refl, Int.natCast_zero, Int.toNat_natCast, Int.reduceToNat, li, gi]
    repeat' first
      | (refine Br.intro (fun _ => ?_) (fun _ => ?_) <;> try simp -dsimp -implicitDefEqProofs only [go_sem, ↓reduceIte, Nat.reduceEqDiff, Nat.reduceLT, Nat.reduceAdd, Nat.reduceMul, Nat.reduceLeDiff, Nat.le_refl, Int.natCast_zero, Int.toNat_natCast, Int.reduceToNat, *])
      | (with_reducible refine And.intro ?_ ?_)
      | (rw [← List.map_take]; refine sCallT_one (c_Contains (c.take i) c[i] (by simp; omega)) ?_; try simp -dsimp -implicitDefEqProofs only [go_sem, ↓reduceIte, Nat.reduceEqDiff, Nat.reduceLT, Nat.reduceAdd, Nat.reduceMul, Nat.reduceLeDiff, Nat.le_refl, Int.natCast_zero, Int.toNat_natCast, Int.reduceToNat, *])
    all_goals first
      | omega | (refine ⟨?_, ?_⟩ <;> omega) | (simp; done) | (simp; omega)
      | rfl
      | (simp_all; done)
      | (simp_all; omega)
      | trace_state
  · have hle := kindsTo_le c c.length
    simp -dsimp -implicitDefEqProofs only [pick_nil, pick_cons, look_nil, look_cons, dropB_nil, dropB_cons, inD_nil, inD_cons, inE_nil, inE_cons, or_t_l, or_f_l, Nat.reduceBEq, Nat.reduceDiv, Nat.reduceAdd, beq_self_eq_true, Bool.false_eq_true, Bool.or_false, ↓reduceIte, Nat.reduceEqDiff, List.cons_append, List.nil_append]
    simp -dsimp -implicitDefEqProofs only [go_sem, ↓reduceIte, Nat.reduceEqDiff, Nat.reduceLT, Nat.reduceAdd, Nat.reduceMul, Nat.reduceLeDiff, Nat.le_refl, Int.natCast_zero, Int.toNat_natCast, Int.reduceToNat, nlt_len]
theorem c_sameRun (c : List Int) (h0 : 0 < c.length) (h : c.length ≤ 1048576) : Fn Tryd.prog 101 [eIs c] true (· = eI (runAt c (c.length - 1))) := by
  refine Fn.of_vcN 28 [.tmp 2] Tryd.func101 rfl rfl rfl rfl rfl (of_decide_eq_true rfl) ?_
  obtain ⟨p1, p2, p3, p4⟩ := runAt_spec c (c.length - 1)
  generalize hR : runAt c (c.length - 1) = R at p1 p2 p3 p4
  have gl : c[c.length - 1]? = some (c.getD (c.length - 1) 0) := by simp [List.getD_eq_getElem?_getD, show c.length - 1 < c.length by omega]
  generalize c.getD (c.length - 1) 0 = z at gl p3 p4
  have q3 : ∀ j, j < R → c[c.length - 1 - j]? = some z := fun j hj => by
    rw [← p3 j hj]; simp [List.getD_eq_getElem?_getD, show c.length - 1 - j < c.length by omega]
  have e1 : ((c.length : Int) - 1).toNat = c.length - 1 := by omega
  simp -dsimp -implicitDefEqProofs only [go_sem, ↓reduceIte, Nat.reduceEqDiff, Nat.reduceLT, Nat.reduceAdd, Nat.reduceMul, Nat.reduceLeDiff, Nat.le_refl, Int.natCast_zero, Int.toNat_natCast, Int.reduceToNat]
  refine Later.up [0] [6, 11, 19] [] (R - 1) (fun _ => True) (fun i => [(3, eI ((i + 1 : Nat) : Int))]) (fun _ => []) trivial ?_ rfl (fun i hi _ => ?_) (fun _ => ?_)
  · simp -dsimp -implicitDefEqProofs only [go_sem, ↓reduceIte, Nat.reduceEqDiff, Nat.reduceLT, Nat.reduceAdd, Nat.reduceMul, Nat.reduceLeDiff, Nat.le_refl, Int.natCast_zero, Int.toNat_natCast, Int.reduceToNat]
    all_goals first | (simp; done) | trace_state
  · have g := q3 (i + 1) (by omega)
    have li : decide (((i + 1 : Nat) : Int) < (c.length : Int)) = true := decide_eq_true (by omega)
    have e2 : ((c.length : Int) - 1 - ((i + 1 : Nat) : Int)).toNat = c.length - 1 - (i + 1) := by omega
    clear q3 p3 p4
    simp -dsimp -implicitDefEqProofs only [pick_nil, pick_cons, look_nil, look_cons, dropB_nil, dropB_cons, inD_nil, inD_cons, inE_nil, inE_cons, or_t_l, or_f_l, Nat.reduceBEq, Nat.reduceDiv, Nat.reduceAdd, beq_self_eq_true, Bool.false_eq_true, Bool.or_false, ↓reduceIte, Nat.reduceEqDiff, List.cons_append, List.nil_append]
    simp -dsimp -implicitDefEqProofs only [go_sem, ↓reduceIte, Nat.reduceEqDiff, Nat.reduceLT, Nat.reduceAdd, Nat.reduceMul, Nat.reduceLeDiff, Nat.le_refl, Int.natCast_zero, Int.toNat_natCast, Int.reduceToNat, li]
    repeat' first
      | (refine Br.intro (fun _ => ?_) (fun _ => ?_) <;> try simp -dsimp -implicitDefEqProofs only [go_sem, ↓reduceIte, Nat.reduceEqDiff, Nat.reduceLT, Nat.reduceAdd, Nat.reduceMul, Nat.reduceLeDiff, Nat.le_refl, Int.natCast_zero, Int.toNat_natCast, Int.reduceToNat, *])
      | (with_reducible refine And.intro ?_ ?_)
      | (refine Later.draw mixed rfl ?_; try simp -dsimp -implicitDefEqProofs only [go_sem, ↓reduceIte, Nat.reduceEqDiff, Nat.reduceLT, Nat.reduceAdd, Nat.reduceMul, Nat.reduceLeDiff, Nat.le_refl, Int.natCast_zero, Int.toNat_natCast, Int.reduceToNat, li, e1, e2, g, gl])
    all_goals first
      | omega | (refine ⟨?_, ?_⟩ <;> omega) | (simp; done) | (simp; omega)
      | rfl
      | (simp_all; done)
      | (simp_all; omega)
      | trace_state
  · have er : R - 1 + 1 = R := by omega
    clear q3 p3
    rw [er]
    simp -dsimp -implicitDefEqProofs only [pick_nil, pick_cons, look_nil, look_cons, dropB_nil, dropB_cons, inD_nil, inD_cons, inE_nil, inE_cons, or_t_l, or_f_l, Nat.reduceBEq, Nat.reduceDiv, Nat.reduceAdd, beq_self_eq_true, Bool.false_eq_true, Bool.or_false, ↓reduceIte, Nat.reduceEqDiff, List.cons_append, List.nil_append]
    by_cases hlt : R < c.length
    · have g : c[c.length - 1 - R]? = some (c.getD (c.length - 1 - R) 0) := by simp [List.getD_eq_getElem?_getD, show c.length - 1 - R < c.length by omega]
      have hz : (c.getD (c.length - 1 - R) 0 == z) = false := beq_eq_false_iff_ne.2 (p4 (by omega))
      have li : decide ((R : Int) < (c.length : Int)) = true := decide_eq_true (by omega)
      have e2 : ((c.length : Int) - 1 - (R : Int)).toNat = c.length - 1 - R := by omega
      generalize c.getD (c.length - 1 - R) 0 = y at g hz
      clear p4
      simp -dsimp -implicitDefEqProofs only [go_sem, ↓reduceIte, Nat.reduceEqDiff, Nat.reduceLT, Nat.reduceAdd, Nat.reduceMul, Nat.reduceLeDiff, Nat.le_refl, Int.natCast_zero, Int.toNat_natCast, Int.reduceToNat, li]
      repeat' first
        | (refine Br.intro (fun _ => ?_) (fun _ => ?_) <;> try simp -dsimp -implicitDefEqProofs only [go_sem, ↓reduceIte, Nat.reduceEqDiff, Nat.reduceLT, Nat.reduceAdd, Nat.reduceMul, Nat.reduceLeDiff, Nat.le_refl, Int.natCast_zero, Int.toNat_natCast, Int.reduceToNat, *])
        | (with_reducible refine And.intro ?_ ?_)
        | (refine Later.draw mixed rfl ?_; try simp -dsimp -implicitDefEqProofs only [go_sem, ↓reduceIte, Nat.reduceEqDiff, Nat.reduceLT, Nat.reduceAdd, Nat.reduceMul, Nat.reduceLeDiff, Nat.le_refl, Int.natCast_zero, Int.toNat_natCast, Int.reduceToNat, li, e1, e2, g, gl, hz])
      all_goals first
        | omega | (refine ⟨?_, ?_⟩ <;> omega) | (simp; done) | (simp; omega)
        | rfl
        | (simp_all; done)
        | (simp_all; omega)
        | trace_state
    · have li : decide ((R : Int) < (c.length : Int)) = false := decide_eq_false (by omega)
      clear p4
      simp -dsimp -implicitDefEqProofs only [go_sem, ↓reduceIte, Nat.reduceEqDiff, Nat.reduceLT, Nat.reduceAdd, Nat.reduceMul, Nat.reduceLeDiff, Nat.le_refl, Int.natCast_zero, Int.toNat_natCast, Int.reduceToNat, li]
      repeat' first
        | (refine Br.intro (fun _ => ?_) (fun _ => ?_) <;> try simp -dsimp -implicitDefEqProofs only [go_sem, ↓reduceIte, Nat.reduceEqDiff, Nat.reduceLT, Nat.reduceAdd, Nat.reduceMul, Nat.reduceLeDiff, Nat.le_refl, Int.natCast_zero, Int.toNat_natCast, Int.reduceToNat, *])
        | (with_reducible refine And.intro ?_ ?_)
        | (refine Later.draw mixed rfl ?_; try simp -dsimp -implicitDefEqProofs only [go_sem, ↓reduceIte, Nat.reduceEqDiff, Nat.reduceLT, Nat.reduceAdd, Nat.reduceMul, Nat.reduceLeDiff, Nat.le_refl, Int.natCast_zero, Int.toNat_natCast, Int.reduceToNat, li])
      all_goals first
        | omega | (refine ⟨?_, ?_⟩ <;> omega) | (simp; done) | (simp; omega)
        | rfl
        | (simp_all; done)
        | (simp_all; omega)
        | trace_state
end Go.Vc
