import Derived.Test.YtgdjpnahpanaoaaGreatPkLawOrderStockD
/-
  Contracts: keys of a maker; desks.
-/
set_option linter.unusedVariables false
set_option linter.unusedSimpArgs false
set_option linter.unnecessarySimpa false
namespace Go.Vc
open Go.Proofs
set_option maxRecDepth 100000
set_option maxHeartbeats 2000000
attribute [go_sem] Option.map_none Nat.sub_zero
def absN (x : Int) : Int := if x < -x then -x else x
def runAt (c : List Int) : Nat → Nat
  | 0 => 1
  | i + 1 => if c.getD (i + 1) 0 = c.getD i 0 then runAt c i + 1 else 1
theorem runAt_spec (c : List Int) (i : Nat) : 1 ≤ runAt c i ∧ runAt c i ≤ i + 1 ∧ (∀ j, j < runAt c i → c.getD (i - j) 0 = c.getD i 0) ∧ (runAt c i < i + 1 → c.getD (i - runAt c i) 0 ≠ c.getD i 0) := by
  induction i with
  | zero => exact ⟨Nat.le_refl _, Nat.le_refl _, fun j hj => by simp [runAt] at hj; subst hj; rfl, fun h => by simp [runAt] at h⟩
  | succ i ih =>
    obtain ⟨h1, h2, h3, h4⟩ := ih
    simp only [runAt]
    split
    · rename_i e
      refine ⟨by omega, by omega, fun j hj => ?_, fun hj => ?_⟩
      · rw [e]
        cases j with
        | zero => exact e
        | succ j => rw [show i + 1 - (j + 1) = i - j by omega]; exact h3 j (by omega)
      · rw [e, show i + 1 - (runAt c i + 1) = i - runAt c i by omega]; exact h4 (by omega)
    · rename_i e
      refine ⟨by omega, by omega, fun j hj => ?_, fun _ => ?_⟩
      · have : j = 0 := by omega
        subst this; rfl
      · show c.getD i 0 ≠ _
        exact fun h => e h.symm
theorem runAt_take (c : List Int) (n i : Nat) (h : i < n) : runAt (c.take n) i = runAt c i := by
  have g : ∀ j, j < n → (c.take n).getD j 0 = c.getD j 0 := fun j hj => by simp [List.getD_eq_getElem?_getD, List.getElem?_take, hj]
  induction i with
  | zero => rfl
  | succ i ih => simp only [runAt]; rw [g (i + 1) h, g i (by omega), ih (by omega)]
def runTo (c : List Int) (i : Nat) : Nat := if i = 0 then 0 else runAt c (i - 1)
def mostTo (c : List Int) : Nat → Nat
  | 0 => 0
  | i + 1 => if mostTo c i < runAt c i then runAt c i else mostTo c i
theorem mostTo_le (c : List Int) (s : Int) (hs : 0 ≤ s) (n : Nat) : decide ((mostTo c n : Int) > s) = !((List.range n).all fun i => decide ((runAt c i : Int) ≤ s)) := by
  induction n with
  | zero => simp [mostTo]; omega
  | succ n ih =>
    rw [range_all_succ, Bool.not_and, ← ih]
    simp only [mostTo]
    split
    · by_cases h : (runAt c n : Int) ≤ s
      · rw [decide_eq_true h, decide_eq_false (show ¬ (mostTo c n : Int) > s by omega), decide_eq_false (show ¬ (runAt c n : Int) > s by omega)]; rfl
      · rw [decide_eq_false h, decide_eq_true (show (runAt c n : Int) > s by omega)]; simp
    · by_cases h : (runAt c n : Int) ≤ s
      · rw [decide_eq_true h]; simp
      · rw [decide_eq_false h, decide_eq_true (show (mostTo c n : Int) > s by omega)]; simp
def stepAt (m : MkM) (c : List Int) (i : Nat) : Bool := i == 0 || decide (absN (c.getD i 0 - c.getD (i - 1) 0) ≤ m.step)
def kindsTo (c : List Int) (n : Nat) : Nat := ((List.range n).filter fun i => !has (c.take i) (c.getD i 0)).length
theorem kindsTo_succ (c : List Int) (i : Nat) (h : i < c.length) : (kindsTo c (i + 1) : Int) = if (!has (c.take i) c[i]) = true then (kindsTo c i : Int) + 1 else kindsTo c i := by
  have g : c.getD i 0 = c[i] := by simp [List.getD_eq_getElem?_getD, h]
  rw [kindsTo, List.range_succ, List.filter_append, List.filter_cons, g]
  split <;> simp [kindsTo]
theorem kindsTo_le (c : List Int) (i : Nat) : kindsTo c i ≤ i := by
  rw [kindsTo]; exact Nat.le_trans (List.length_filter_le _ _) (by simp)
def fault (m : MkM) (c : List Int) : Int :=
  if (c.length : Int) ≠ m.chambers then 1
  else if (c.all fun x => isIn x 0 (m.depths - 1)) = false then 2
  else if ((List.range c.length).all (stepAt m c)) = false then 3
  else if ((List.range c.length).all fun i => decide ((runAt c i : Int) ≤ m.same)) = false then 4
  else if (kindsTo c c.length : Int) < m.least then 5 else 0
attribute [irreducible] runAt mostTo kindsTo
theorem c_l01Abs (x : Int) (h : -1000 ≤ x ∧ x ≤ 1000) : Fn Tryz.prog 102 [eI x] true (· = eI (absN x)) := by
  refine Fn.of_vcN 7 [.tmp 2] Tryz.func102 rfl rfl rfl rfl rfl (of_decide_eq_true rfl) ?_
  simp -dsimp -implicitDefEqProofs only [go_sem, ↓reduceIte, Nat.reduceEqDiff, Nat.reduceLT, Nat.reduceAdd, Nat.reduceMul, Nat.reduceLeDiff, Nat.le_refl, Int.natCast_zero, Int.toNat_natCast, Int.reduceToNat]
  repeat' first
    | (refine Br.intro (fun _ => ?_) (fun _ => ?_) <;> try simp -dsimp -implicitDefEqProofs only [go_sem, ↓reduceIte, Nat.reduceEqDiff, Nat.reduceLT, Nat.reduceAdd, Nat.reduceMul, Nat.reduceLeDiff, Nat.le_refl, Int.natCast_zero, Int.toNat_natCast, Int.reduceToNat, *])
    | (with_reducible refine And.intro ?_ ?_)
  all_goals first | omega | (refine ⟨?_, ?_⟩ <;> omega) | rfl | (simp; done) | (simp_all [absN]; done) | (simp_all [absN]; omega) | (simp_all [absN]; split <;> simp_all <;> omega) | trace_state
theorem c_absolute (x : Int) (h : -1000 ≤ x ∧ x ≤ 1000) : Fn Tryz.prog 181 [eI x] true (· = eI (absN x)) := by
  refine Fn.of_vcN 7 [.tmp 2] Tryz.func181 rfl rfl rfl rfl rfl (of_decide_eq_true rfl) ?_
  simp -dsimp -implicitDefEqProofs only [go_sem, ↓reduceIte, Nat.reduceEqDiff, Nat.reduceLT, Nat.reduceAdd, Nat.reduceMul, Nat.reduceLeDiff, Nat.le_refl, Int.natCast_zero, Int.toNat_natCast, Int.reduceToNat]
  repeat' first
    | (refine Br.intro (fun _ => ?_) (fun _ => ?_) <;> try simp -dsimp -implicitDefEqProofs only [go_sem, ↓reduceIte, Nat.reduceEqDiff, Nat.reduceLT, Nat.reduceAdd, Nat.reduceMul, Nat.reduceLeDiff, Nat.le_refl, Int.natCast_zero, Int.toNat_natCast, Int.reduceToNat, *])
    | (with_reducible refine And.intro ?_ ?_)
  all_goals first | omega | (refine ⟨?_, ?_⟩ <;> omega) | rfl | (simp; done) | (simp_all [absN]; done) | (simp_all [absN]; omega) | (simp_all [absN]; split <;> simp_all <;> omega) | trace_state
theorem c_l02Kinds (c : List Int) (h : c.length ≤ 1048576) : Fn Tryz.prog 81 [eIs c] true (· = eI (kindsTo c c.length)) := by
  refine Fn.of_vcN 23 [.tmp 2] Tryz.func81 rfl rfl rfl rfl rfl (of_decide_eq_true rfl) ?_
  simp -dsimp -implicitDefEqProofs only [go_sem, ↓reduceIte, Nat.reduceEqDiff, Nat.reduceLT, Nat.reduceAdd, Nat.reduceMul, Nat.reduceLeDiff, Nat.le_refl, Int.natCast_zero, Int.toNat_natCast, Int.reduceToNat]
  refine Later.up [0] [7, 18] [] c.length (fun _ => True) (fun i => [(4, eI i), (3, eI (kindsTo c i))]) (fun _ => []) trivial ?_ rfl (fun i hi _ => ?_) (fun _ => ?_)
  · simp -dsimp -implicitDefEqProofs only [go_sem, ↓reduceIte, Nat.reduceEqDiff, Nat.reduceLT, Nat.reduceAdd, Nat.reduceMul, Nat.reduceLeDiff, Nat.le_refl, Int.natCast_zero, Int.toNat_natCast, Int.reduceToNat]
    all_goals first | (simp [kindsTo]; done) | trace_state
  · have gi := get_some hi
    have li := lt_len hi
    have hs := kindsTo_succ c i hi
    have hle := kindsTo_le c i
    simp -dsimp -implicitDefEqProofs only [pick_nil, pick_cons, look_nil, look_cons, dropB_nil, dropB_cons, inD_nil, inD_cons, inE_nil, inE_cons, or_t_l, or_f_l, Nat.reduceBEq, Nat.reduceDiv, Nat.reduceAdd, beq_self_eq_true, Bool.false_eq_true, Bool.or_false, ↓reduceIte, Nat.reduceEqDiff, List.cons_append, List.nil_append]
    rw [hs]
    clear hs
    simp -dsimp -implicitDefEqProofs only [go_sem, ↓reduceIte, Nat.reduceEqDiff, Nat.reduceLT, Nat.reduceAdd, Nat.reduceMul, Nat.reduceLeDiff, Nat.le_refl, Int.natCast_zero, Int.toNat_natCast, Int.reduceToNat, li, gi]
    repeat' first
      | (refine Br.intro (fun _ => ?_) (fun _ => ?_) <;> try simp -dsimp -implicitDefEqProofs only [go_sem, ↓reduceIte, Nat.reduceEqDiff, Nat.reduceLT, Nat.reduceAdd, Nat.reduceMul, Nat.reduceLeDiff, Nat.le_refl, Int.natCast_zero, Int.toNat_natCast, Int.reduceToNat, *])
      | (with_reducible refine And.intro ?_ ?_)
      | (refine Later.draw mixed rfl ?_; try simp -dsimp -implicitDefEqProofs only [go_sem, ↓reduceIte, Nat.reduceEqDiff, Nat.reduceLT, Nat.reduceAdd, Nat.reduceMul, Nat.reduceLeDiff, Nat.le_refl, Int.natCast_zero, Int.toNat_natCast, Int.reduceToNat, *])
      | (rw [← List.map_take]; refine sCallX_one (c_l01Has (c.take i) c[i] (by simp; omega)) ?_; try simp -dsimp -implicitDefEqProofs only [go_sem, ↓reduceIte, Nat.reduceEqDiff, Nat.reduceLT, Nat.reduceAdd, Nat.reduceMul, Nat.reduceLeDiff, Nat.le_refl, Int.natCast_zero, Int.toNat_natCast, Int.reduceToNat, *])
    all_goals first
      | omega | (refine ⟨?_, ?_⟩ <;> omega) | (simp; done) | (simp; omega)
      | rfl
      | (simp_all; done)
      | (simp_all; omega)
      | trace_state
  · have hle := kindsTo_le c c.length
    simp -dsimp -implicitDefEqProofs only [pick_nil, pick_cons, look_nil, look_cons, dropB_nil, dropB_cons, inD_nil, inD_cons, inE_nil, inE_cons, or_t_l, or_f_l, Nat.reduceBEq, Nat.reduceDiv, Nat.reduceAdd, beq_self_eq_true, Bool.false_eq_true, Bool.or_false, ↓reduceIte, Nat.reduceEqDiff, List.cons_append, List.nil_append]
    simp -dsimp -implicitDefEqProofs only [go_sem, ↓reduceIte, Nat.reduceEqDiff, Nat.reduceLT, Nat.reduceAdd, Nat.reduceMul, Nat.reduceLeDiff, Nat.le_refl, Int.natCast_zero, Int.toNat_natCast, Int.reduceToNat, nlt_len]
theorem c_different (c : List Int) (h : c.length ≤ 1048576) : Fn Tryz.prog 183 [eIs c] true (· = eI (kindsTo c c.length)) := by
  refine Fn.of_vcN 23 [.tmp 2] Tryz.func183 rfl rfl rfl rfl rfl (of_decide_eq_true rfl) ?_
  simp -dsimp -implicitDefEqProofs only [go_sem, ↓reduceIte, Nat.reduceEqDiff, Nat.reduceLT, Nat.reduceAdd, Nat.reduceMul, Nat.reduceLeDiff, Nat.le_refl, Int.natCast_zero, Int.toNat_natCast, Int.reduceToNat]
  refine Later.up [0, 6, 7] [17] [] c.length (fun _ => True) (fun i => [(8, eI i), (3, eI (kindsTo c i))]) (fun _ => []) trivial ?_ rfl (fun i hi _ => ?_) (fun _ => ?_)
  · simp -dsimp -implicitDefEqProofs only [go_sem, ↓reduceIte, Nat.reduceEqDiff, Nat.reduceLT, Nat.reduceAdd, Nat.reduceMul, Nat.reduceLeDiff, Nat.le_refl, Int.natCast_zero, Int.toNat_natCast, Int.reduceToNat]
    all_goals first | (simp [kindsTo]; done) | trace_state
  · have gi := get_some hi
    have li := lt_len hi
    have hs := kindsTo_succ c i hi
    have hle := kindsTo_le c i
    simp -dsimp -implicitDefEqProofs only [pick_nil, pick_cons, look_nil, look_cons, dropB_nil, dropB_cons, inD_nil, inD_cons, inE_nil, inE_cons, or_t_l, or_f_l, Nat.reduceBEq, Nat.reduceDiv, Nat.reduceAdd, beq_self_eq_true, Bool.false_eq_true, Bool.or_false, ↓reduceIte, Nat.reduceEqDiff, List.cons_append, List.nil_append]
    rw [hs]
    clear hs
    simp -dsimp -implicitDefEqProofs only [go_sem, ↓reduceIte, Nat.reduceEqDiff, Nat.reduceLT, Nat.reduceAdd, Nat.reduceMul, Nat.reduceLeDiff, Nat.le_refl, Int.natCast_zero, Int.toNat_natCast, Int.reduceToNat, li, gi]
    repeat' first
      | (refine Br.intro (fun _ => ?_) (fun _ => ?_) <;> try simp -dsimp -implicitDefEqProofs only [go_sem, ↓reduceIte, Nat.reduceEqDiff, Nat.reduceLT, Nat.reduceAdd, Nat.reduceMul, Nat.reduceLeDiff, Nat.le_refl, Int.natCast_zero, Int.toNat_natCast, Int.reduceToNat, *])
      | (with_reducible refine And.intro ?_ ?_)
      | (rw [← List.map_take]; refine sCallT_one (c_Contains (c.take i) c[i] (by simp; omega)) ?_; try simp -dsimp -implicitDefEqProofs only [go_sem, ↓reduceIte, Nat.reduceEqDiff, Nat.reduceLT, Nat.reduceAdd, Nat.reduceMul, Nat.reduceLeDiff, Nat.le_refl, Int.natCast_zero, Int.toNat_natCast, Int.reduceToNat, *])
    all_goals first
      | omega | (refine ⟨?_, ?_⟩ <;> omega) | (simp; done) | (simp; omega)
      | rfl
      | (simp_all; done)
      | (simp_all; omega)
      | trace_state
  · have hle := kindsTo_le c c.length
    simp -dsimp -implicitDefEqProofs only [pick_nil, pick_cons, look_nil, look_cons, dropB_nil, dropB_cons, inD_nil, inD_cons, inE_nil, inE_cons, or_t_l, or_f_l, Nat.reduceBEq, Nat.reduceDiv, Nat.reduceAdd, beq_self_eq_true, Bool.false_eq_true, Bool.or_false, ↓reduceIte, Nat.reduceEqDiff, List.cons_append, List.nil_append]
    simp -dsimp -implicitDefEqProofs only [go_sem, ↓reduceIte, Nat.reduceEqDiff, Nat.reduceLT, Nat.reduceAdd, Nat.reduceMul, Nat.reduceLeDiff, Nat.le_refl, Int.natCast_zero, Int.toNat_natCast, Int.reduceToNat, nlt_len]
theorem c_sameRun (c : List Int) (h0 : 0 < c.length) (h : c.length ≤ 1048576) : Fn Tryz.prog 182 [eIs c] true (· = eI (runAt c (c.length - 1))) := by
  refine Fn.of_vcN 28 [.tmp 2] Tryz.func182 rfl rfl rfl rfl rfl (of_decide_eq_true rfl) ?_
  obtain ⟨p1, p2, p3, p4⟩ := runAt_spec c (c.length - 1)
  generalize hR : runAt c (c.length - 1) = R at p1 p2 p3 p4
  have gl : c[c.length - 1]? = some (c.getD (c.length - 1) 0) := by simp [List.getD_eq_getElem?_getD, show c.length - 1 < c.length by omega]
  generalize c.getD (c.length - 1) 0 = z at gl p3 p4
  have q3 : ∀ j, j < R → c[c.length - 1 - j]? = some z := fun j hj => by
    rw [← p3 j hj]; simp [List.getD_eq_getElem?_getD, show c.length - 1 - j < c.length by omega]
  have e1 : ((c.length : Int) - 1).toNat = c.length - 1 := by omega
  simp -dsimp -implicitDefEqProofs only [go_sem, ↓reduceIte, Nat.reduceEqDiff, Nat.reduceLT, Nat.reduceAdd, Nat.reduceMul, Nat.reduceLeDiff, Nat.le_refl, Int.natCast_zero, Int.toNat_natCast, Int.reduceToNat]
  refine Later.up [0] [6, 11, 19] [] (R - 1) (fun _ => True) (fun i => [(3, eI ((i + 1 : Nat) : Int))]) (fun _ => []) trivial ?_ rfl (fun i hi _ => ?_) (fun _ => ?_)
  · simp -dsimp -implicitDefEqProofs only [go_sem, ↓reduceIte, Nat.reduceEqDiff, Nat.reduceLT, Nat.reduceAdd, Nat.reduceMul, Nat.reduceLeDiff, Nat.le_refl, Int.natCast_zero, Int.toNat_natCast, Int.reduceToNat]
    all_goals first | (simp; done) | trace_state
  · have g := q3 (i + 1) (by omega)
    have li : decide (((i + 1 : Nat) : Int) < (c.length : Int)) = true := decide_eq_true (by omega)
    have e2 : ((c.length : Int) - 1 - ((i + 1 : Nat) : Int)).toNat = c.length - 1 - (i + 1) := by omega
    clear q3 p3 p4
    simp -dsimp -implicitDefEqProofs only [pick_nil, pick_cons, look_nil, look_cons, dropB_nil, dropB_cons, inD_nil, inD_cons, inE_nil, inE_cons, or_t_l, or_f_l, Nat.reduceBEq, Nat.reduceDiv, Nat.reduceAdd, beq_self_eq_true, Bool.false_eq_true, Bool.or_false, ↓reduceIte, Nat.reduceEqDiff, List.cons_append, List.nil_append]
    simp -dsimp -implicitDefEqProofs only [go_sem, ↓reduceIte, Nat.reduceEqDiff, Nat.reduceLT, Nat.reduceAdd, Nat.reduceMul, Nat.reduceLeDiff, Nat.le_refl, Int.natCast_zero, Int.toNat_natCast, Int.reduceToNat, li]
    repeat' first
      | (refine Br.intro (fun _ => ?_) (fun _ => ?_) <;> try simp -dsimp -implicitDefEqProofs only [go_sem, ↓reduceIte, Nat.reduceEqDiff, Nat.reduceLT, Nat.reduceAdd, Nat.reduceMul, Nat.reduceLeDiff, Nat.le_refl, Int.natCast_zero, Int.toNat_natCast, Int.reduceToNat, *])
      | (with_reducible refine And.intro ?_ ?_)
      | (refine Later.draw mixed rfl ?_; try simp -dsimp -implicitDefEqProofs only [go_sem, ↓reduceIte, Nat.reduceEqDiff, Nat.reduceLT, Nat.reduceAdd, Nat.reduceMul, Nat.reduceLeDiff, Nat.le_refl, Int.natCast_zero, Int.toNat_natCast, Int.reduceToNat, li, e1, e2, g, gl])
    all_goals first
      | omega | (refine ⟨?_, ?_⟩ <;> omega) | (simp; done) | (simp; omega)
      | rfl
      | (simp_all; done)
      | (simp_all; omega)
      | trace_state
  · have er : R - 1 + 1 = R := by omega
    clear q3 p3
    rw [er]
    simp -dsimp -implicitDefEqProofs only [pick_nil, pick_cons, look_nil, look_cons, dropB_nil, dropB_cons, inD_nil, inD_cons, inE_nil, inE_cons, or_t_l, or_f_l, Nat.reduceBEq, Nat.reduceDiv, Nat.reduceAdd, beq_self_eq_true, Bool.false_eq_true, Bool.or_false, ↓reduceIte, Nat.reduceEqDiff, List.cons_append, List.nil_append]
    by_cases hlt : R < c.length
    · have g : c[c.length - 1 - R]? = some (c.getD (c.length - 1 - R) 0) := by simp [List.getD_eq_getElem?_getD, show c.length - 1 - R < c.length by omega]
      have hz : (c.getD (c.length - 1 - R) 0 == z) = false := beq_eq_false_iff_ne.2 (p4 (by omega))
      have li : decide ((R : Int) < (c.length : Int)) = true := decide_eq_true (by omega)
      have e2 : ((c.length : Int) - 1 - (R : Int)).toNat = c.length - 1 - R := by omega
      generalize c.getD (c.length - 1 - R) 0 = y at g hz
      clear p4
      simp -dsimp -implicitDefEqProofs only [go_sem, ↓reduceIte, Nat.reduceEqDiff, Nat.reduceLT, Nat.reduceAdd, Nat.reduceMul, Nat.reduceLeDiff, Nat.le_refl, Int.natCast_zero, Int.toNat_natCast, Int.reduceToNat, li]
      repeat' first
        | (refine Br.intro (fun _ => ?_) (fun _ => ?_) <;> try simp -dsimp -implicitDefEqProofs only [go_sem, ↓reduceIte, Nat.reduceEqDiff, Nat.reduceLT, Nat.reduceAdd, Nat.reduceMul, Nat.reduceLeDiff, Nat.le_refl, Int.natCast_zero, Int.toNat_natCast, Int.reduceToNat, *])
        | (with_reducible refine And.intro ?_ ?_)
        | (refine Later.draw mixed rfl ?_; try simp -dsimp -implicitDefEqProofs only [go_sem, ↓reduceIte, Nat.reduceEqDiff, Nat.reduceLT, Nat.reduceAdd, Nat.reduceMul, Nat.reduceLeDiff, Nat.le_refl, Int.natCast_zero, Int.toNat_natCast, Int.reduceToNat, li, e1, e2, g, gl, hz])
      all_goals first
        | omega | (refine ⟨?_, ?_⟩ <;> omega) | (simp; done) | (simp; omega)
        | rfl
        | (simp_all; done)
        | (simp_all; omega)
        | trace_state
    · have li : decide ((R : Int) < (c.length : Int)) = false := decide_eq_false (by omega)
      clear p4
      simp -dsimp -implicitDefEqProofs only [go_sem, ↓reduceIte, Nat.reduceEqDiff, Nat.reduceLT, Nat.reduceAdd, Nat.reduceMul, Nat.reduceLeDiff, Nat.le_refl, Int.natCast_zero, Int.toNat_natCast, Int.reduceToNat, li]
      repeat' first
        | (refine Br.intro (fun _ => ?_) (fun _ => ?_) <;> try simp -dsimp -implicitDefEqProofs only [go_sem, ↓reduceIte, Nat.reduceEqDiff, Nat.reduceLT, Nat.reduceAdd, Nat.reduceMul, Nat.reduceLeDiff, Nat.le_refl, Int.natCast_zero, Int.toNat_natCast, Int.reduceToNat, *])
        | (with_reducible refine And.intro ?_ ?_)
        | (refine Later.draw mixed rfl ?_; try simp -dsimp -implicitDefEqProofs only [go_sem, ↓reduceIte, Nat.reduceEqDiff, Nat.reduceLT, Nat.reduceAdd, Nat.reduceMul, Nat.reduceLeDiff, Nat.le_refl, Int.natCast_zero, Int.toNat_natCast, Int.reduceToNat, li])
      all_goals first
        | omega | (refine ⟨?_, ?_⟩ <;> omega) | (simp; done) | (simp; omega)
        | rfl
        | (simp_all; done)
        | (simp_all; omega)
        | trace_state
end Go.Vc


/-
  Contracts: whether cuts are a key of a maker.
-/
set_option linter.unusedVariables false
set_option linter.unusedSimpArgs false
set_option linter.unnecessarySimpa false
namespace Go.Vc
open Go.Proofs
set_option maxRecDepth 100000
set_option maxHeartbeats 2000000
theorem c_l02CutsK (m : MkM) (c : List Int) (hm : isMk m = true) (h : c.length ≤ 1048576) : Fn Tryz.prog 179 [eMk m, eIs c] true (· = eB ((c.all fun x => isIn x 0 (m.depths - 1)) && ((c.length : Int) == m.chambers))) := by
  refine Fn.of_vcN 26 [.tmp 4] Tryz.func179 rfl rfl rfl rfl rfl (of_decide_eq_true rfl) ?_
  have hb := isMk_num hm
  simp -dsimp -implicitDefEqProofs only [go_sem, ↓reduceIte, Nat.reduceEqDiff, Nat.reduceLT, Nat.reduceAdd, Nat.reduceMul, Nat.reduceLeDiff, Nat.le_refl, Int.natCast_zero, Int.toNat_natCast, Int.reduceToNat]
  refine Later.up [1, 2] [8, 19] [] c.length (fun i => (c.take i).all (fun x => isIn x 0 (m.depths - 1))) (fun i => [(5, eI i)]) (fun _ => []) (by simp) ?_ rfl (fun i hi hI => ?_) (fun hI => ?_)
  · simp -dsimp -implicitDefEqProofs only [go_sem, ↓reduceIte, Nat.reduceEqDiff, Nat.reduceLT, Nat.reduceAdd, Nat.reduceMul, Nat.reduceLeDiff, Nat.le_refl, Int.natCast_zero, Int.toNat_natCast, Int.reduceToNat]
  · have gi := get_some hi
    have li := lt_len hi
    have no : isIn c[i] 0 (m.depths - 1) = false → (c.all fun x => isIn x 0 (m.depths - 1)) = false := fun h => all_no (p := fun x => isIn x 0 (m.depths - 1)) hi h
    have yes : isIn c[i] 0 (m.depths - 1) = true → (c.take (i + 1)).all (fun x => isIn x 0 (m.depths - 1)) = true := fun h => by rw [all_take _ _ _ hi, hI, h]; rfl
    simp -dsimp -implicitDefEqProofs only [pick_nil, pick_cons, look_nil, look_cons, dropB_nil, dropB_cons, inD_nil, inD_cons, inE_nil, inE_cons, or_t_l, or_f_l, Nat.reduceBEq, Nat.reduceDiv, Nat.reduceAdd, beq_self_eq_true, Bool.false_eq_true, Bool.or_false, ↓reduceIte, Nat.reduceEqDiff, List.cons_append, List.nil_append]
    simp -dsimp -implicitDefEqProofs only [go_sem, ↓reduceIte, Nat.reduceEqDiff, Nat.reduceLT, Nat.reduceAdd, Nat.reduceMul, Nat.reduceLeDiff, Nat.le_refl, Int.natCast_zero, Int.toNat_natCast, Int.reduceToNat, li, gi]
    repeat' first
      | (refine Br.intro (fun _ => ?_) (fun _ => ?_) <;> try simp -dsimp -implicitDefEqProofs only [go_sem, ↓reduceIte, Nat.reduceEqDiff, Nat.reduceLT, Nat.reduceAdd, Nat.reduceMul, Nat.reduceLeDiff, Nat.le_refl, Int.natCast_zero, Int.toNat_natCast, Int.reduceToNat, *])
      | (with_reducible refine And.intro ?_ ?_)
      | (refine Later.draw mixed rfl ?_; try simp -dsimp -implicitDefEqProofs only [go_sem, ↓reduceIte, Nat.reduceEqDiff, Nat.reduceLT, Nat.reduceAdd, Nat.reduceMul, Nat.reduceLeDiff, Nat.le_refl, Int.natCast_zero, Int.toNat_natCast, Int.reduceToNat, *])
      | (refine sCallX_one (c_l01In _ _ _) ?_; try simp -dsimp -implicitDefEqProofs only [go_sem, ↓reduceIte, Nat.reduceEqDiff, Nat.reduceLT, Nat.reduceAdd, Nat.reduceMul, Nat.reduceLeDiff, Nat.le_refl, Int.natCast_zero, Int.toNat_natCast, Int.reduceToNat, *])
    all_goals first
      | omega
      | (refine ⟨?_, ?_⟩ <;> omega)
      | rfl
      | (simp; done)
      | (rw [no (by simp_all)]; rfl)
      | (refine yes ?_; simp_all; done)
      | trace_state
  · simp -dsimp -implicitDefEqProofs only [pick_nil, pick_cons, look_nil, look_cons, dropB_nil, dropB_cons, inD_nil, inD_cons, inE_nil, inE_cons, or_t_l, or_f_l, Nat.reduceBEq, Nat.reduceDiv, Nat.reduceAdd, beq_self_eq_true, Bool.false_eq_true, Bool.or_false, ↓reduceIte, Nat.reduceEqDiff, List.cons_append, List.nil_append]
    rw [List.take_length] at hI
    simp -dsimp -implicitDefEqProofs only [go_sem, ↓reduceIte, Nat.reduceEqDiff, Nat.reduceLT, Nat.reduceAdd, Nat.reduceMul, Nat.reduceLeDiff, Nat.le_refl, Int.natCast_zero, Int.toNat_natCast, Int.reduceToNat, nlt_len]
    rw [hI]
    rfl
theorem c_areCutsK (m : MkM) (c : List Int) (hm : isMk m = true) (h : c.length ≤ 1048576) : Fn Tryz.prog 180 [eMk m, eIs c] true (· = eB (((c.length : Int) == m.chambers) && (c.all fun x => isIn x 0 (m.depths - 1)))) := by
  refine Fn.of_vcN 17 [.tmp 4] Tryz.func180 rfl rfl rfl rfl rfl (of_decide_eq_true rfl) ?_
  have hb := isMk_num hm
  simp -dsimp -implicitDefEqProofs only [go_sem, ↓reduceIte, Nat.reduceEqDiff, Nat.reduceLT, Nat.reduceAdd, Nat.reduceMul, Nat.reduceLeDiff, Nat.le_refl, Int.natCast_zero, Int.toNat_natCast, Int.reduceToNat]
  repeat' first
    | (refine Br.intro (fun _ => ?_) (fun _ => ?_) <;> try simp -dsimp -implicitDefEqProofs only [go_sem, ↓reduceIte, Nat.reduceEqDiff, Nat.reduceLT, Nat.reduceAdd, Nat.reduceMul, Nat.reduceLeDiff, Nat.le_refl, Int.natCast_zero, Int.toNat_natCast, Int.reduceToNat, *])
    | (with_reducible refine And.intro ?_ ?_)
    | (refine sCallT_one (c_allWithin c 0 (m.depths - 1) (by omega)) ?_; try simp -dsimp -implicitDefEqProofs only [go_sem, ↓reduceIte, Nat.reduceEqDiff, Nat.reduceLT, Nat.reduceAdd, Nat.reduceMul, Nat.reduceLeDiff, Nat.le_refl, Int.natCast_zero, Int.toNat_natCast, Int.reduceToNat, *])
  all_goals first
    | omega
    | (refine ⟨?_, ?_⟩ <;> omega)
    | (simp_all; done)
    | trace_state
theorem elem_in {m : MkM} {c : List Int} (hm : isMk m = true) (ha : (c.all fun x => isIn x 0 (m.depths - 1)) = true) (i : Nat) (hi : i < c.length) : 0 ≤ c[i] ∧ c[i] ≤ 7 := by
  have := isMk_num hm
  rw [List.all_eq_true] at ha
  have := ha _ (List.getElem_mem hi)
  simp [isIn] at this
  omega
theorem isMk_same {m : MkM} (h : isMk m = true) : 1 ≤ m.same ∧ m.same ≤ 6 ∧ 1 ≤ m.least ∧ 1 ≤ m.step := by
  simp only [isMk, Bool.and_eq_true, isIn, decide_eq_true_eq] at h
  omega
theorem c_l02Fault (m : MkM) (c : List Int) (hm : isMk m = true) (h : c.length ≤ 1048576) : Fn Tryz.prog 170 [eMk m, eIs c] true (· = eI (fault m c)) := by
  refine Fn.of_vcN 71 [.tmp 4] Tryz.func170 rfl rfl rfl rfl rfl (of_decide_eq_true rfl) ?_
  rcases hl : ((c.length : Int) == m.chambers) with _ | _
  · have hF : fault m c = 1 := by rw [fault, if_pos (by simpa using hl)]
    rw [hF]
    simp -dsimp -implicitDefEqProofs only [go_sem, ↓reduceIte, Nat.reduceEqDiff, Nat.reduceLT, Nat.reduceAdd, Nat.reduceMul, Nat.reduceLeDiff, Nat.le_refl, Int.natCast_zero, Int.toNat_natCast, Int.reduceToNat, hl]
    repeat' first
      | (refine Br.intro (fun _ => ?_) (fun _ => ?_) <;> try simp -dsimp -implicitDefEqProofs only [go_sem, ↓reduceIte, Nat.reduceEqDiff, Nat.reduceLT, Nat.reduceAdd, Nat.reduceMul, Nat.reduceLeDiff, Nat.le_refl, Int.natCast_zero, Int.toNat_natCast, Int.reduceToNat, *])
      | (with_reducible refine And.intro ?_ ?_)
    all_goals (first | omega | (refine ⟨?_, ?_⟩ <;> omega) | (simp; done) | (simp; omega) | (refine ⟨?_, ?_⟩ <;> omega) | rfl | (simp; done) | (simp_all; done) | (simp_all; omega) | (exfalso; simp_all [bne]; done) | trace_state)
  have hle : ¬ (c.length : Int) ≠ m.chambers := by simpa using hl
  rcases ha : (c.all fun x => isIn x 0 (m.depths - 1)) with _ | _
  · have hF : fault m c = 2 := by rw [fault, if_neg hle, if_pos ha]
    have hc := c_l02CutsK m c hm h
    rw [ha, hl] at hc
    rw [hF]
    clear hF ha hle
    simp -dsimp -implicitDefEqProofs only [go_sem, ↓reduceIte, Nat.reduceEqDiff, Nat.reduceLT, Nat.reduceAdd, Nat.reduceMul, Nat.reduceLeDiff, Nat.le_refl, Int.natCast_zero, Int.toNat_natCast, Int.reduceToNat, hl]
    repeat' first
      | (refine Br.intro (fun _ => ?_) (fun _ => ?_) <;> try simp -dsimp -implicitDefEqProofs only [go_sem, ↓reduceIte, Nat.reduceEqDiff, Nat.reduceLT, Nat.reduceAdd, Nat.reduceMul, Nat.reduceLeDiff, Nat.le_refl, Int.natCast_zero, Int.toNat_natCast, Int.reduceToNat, *])
      | (with_reducible refine And.intro ?_ ?_)
      | (refine sCallT_one (hc) ?_; try simp -dsimp -implicitDefEqProofs only [go_sem, ↓reduceIte, Nat.reduceEqDiff, Nat.reduceLT, Nat.reduceAdd, Nat.reduceMul, Nat.reduceLeDiff, Nat.le_refl, Int.natCast_zero, Int.toNat_natCast, Int.reduceToNat, *])
    all_goals (first | omega | (refine ⟨?_, ?_⟩ <;> omega) | (simp; done) | (simp; omega) | (refine ⟨?_, ?_⟩ <;> omega) | rfl | (simp; done) | (simp_all; done) | (simp_all; omega) | (exfalso; simp_all [bne]; done) | trace_state)
  have hF : fault m c = if ((List.range c.length).all (stepAt m c)) = false then 3 else if ((List.range c.length).all fun i => decide ((runAt c i : Int) ≤ m.same)) = false then 4 else if (kindsTo c c.length : Int) < m.least then 5 else 0 := by
    rw [fault, if_neg hle, if_neg (by simp [ha])]
  have hc := c_l02CutsK m c hm h
  rw [ha, hl] at hc
  have hel := elem_in hm ha
  have hsm := isMk_same hm
  have hkl := kindsTo_le c c.length
  have hch : c.length ≤ 6 := by have := isMk_num hm; omega
  clear ha hle
  simp -dsimp -implicitDefEqProofs only [go_sem, ↓reduceIte, Nat.reduceEqDiff, Nat.reduceLT, Nat.reduceAdd, Nat.reduceMul, Nat.reduceLeDiff, Nat.le_refl, Int.natCast_zero, Int.toNat_natCast, Int.reduceToNat, hl]
  repeat' first
    | (refine Br.intro (fun _ => ?_) (fun _ => ?_) <;> try simp -dsimp -implicitDefEqProofs only [go_sem, ↓reduceIte, Nat.reduceEqDiff, Nat.reduceLT, Nat.reduceAdd, Nat.reduceMul, Nat.reduceLeDiff, Nat.le_refl, Int.natCast_zero, Int.toNat_natCast, Int.reduceToNat, *])
    | (with_reducible refine And.intro ?_ ?_)
    | (refine sCallT_one (hc) ?_; try simp -dsimp -implicitDefEqProofs only [go_sem, ↓reduceIte, Nat.reduceEqDiff, Nat.reduceLT, Nat.reduceAdd, Nat.reduceMul, Nat.reduceLeDiff, Nat.le_refl, Int.natCast_zero, Int.toNat_natCast, Int.reduceToNat, *])
  all_goals try (first | omega | (simp; done) | (simp_all; done))
  clear hl hc
  refine Later.up [1, 2] [19, 36, 59] [] c.length (fun i => (List.range i).all (stepAt m c)) (fun i => [(7, eI i), (5, eI (runTo c i)), (6, eI (mostTo c i))]) (fun _ => []) (by simp) ?_ rfl (fun i hi hI => ?_) (fun hI => ?_)
  · have h0 : mostTo c 0 = 0 := by unfold mostTo; rfl
    rw [show runTo c 0 = 0 from rfl, h0]
    simp -dsimp -implicitDefEqProofs only [go_sem, ↓reduceIte, Nat.reduceEqDiff, Nat.reduceLT, Nat.reduceAdd, Nat.reduceMul, Nat.reduceLeDiff, Nat.le_refl, Int.natCast_zero, Int.toNat_natCast, Int.reduceToNat]
    all_goals (first | omega | (refine ⟨?_, ?_⟩ <;> omega) | (simp; done) | (simp; omega) | (refine ⟨?_, ?_⟩ <;> omega) | rfl | (simp; done) | (simp_all; done) | (simp_all; omega) | (exfalso; simp_all [bne]; done) | trace_state)
  · have no : stepAt m c i = false → fault m c = 3 := fun h => by rw [hF, if_pos (range_all_no hi h)]
    have yes : stepAt m c i = true → (List.range (i + 1)).all (stepAt m c) = true := fun h => by rw [range_all_succ, hI, h]; rfl
    have hM : ((mostTo c (i + 1) : Nat) : Int) = if ((runTo c (i + 1) : Nat) : Int) > (mostTo c i : Int) then ((runTo c (i + 1) : Nat) : Int) else (mostTo c i : Int) := by
      rw [show runTo c (i + 1) = runAt c i from rfl]
      show ((mostTo c (i + 1) : Nat) : Int) = _
      rw [show mostTo c (i + 1) = if mostTo c i < runAt c i then runAt c i else mostTo c i by rw [mostTo]]
      by_cases hlt : mostTo c i < runAt c i
      · rw [if_pos hlt, if_pos (by omega)]
      · rw [if_neg hlt, if_neg (by omega)]
    have hrb : runTo c i ≤ i ∧ runTo c (i + 1) ≤ i + 1 := by
      refine ⟨?_, (runAt_spec c i).2.1⟩
      rw [runTo]; split
      · omega
      · have := (runAt_spec c (i - 1)).2.1; omega
    have hmb : mostTo c i ≤ c.length := by
      have key : ∀ n, mostTo c n ≤ n := fun n => by
        induction n with
        | zero => unfold mostTo; omega
        | succ n ih => rw [mostTo]; have := (runAt_spec c n).2.1; split <;> omega
      have := key i; omega
    have e1 := hel i hi
    have gi := get_some hi
    have li := lt_len hi
    clear hF hI
    generalize mostTo c i = M at hM hmb
    generalize mostTo c (i + 1) = M' at hM
    by_cases hi0 : 0 < i
    rotate_left
    · have g3 : decide ((i : Int) > 0) = false := by simp; omega
      have hR : runTo c i = 0 ∧ runTo c (i + 1) = 1 := by
        have e0 : i = 0 := by omega
        subst e0
        exact ⟨rfl, by show runAt c 0 = 1; unfold runAt; rfl⟩
      have hs : stepAt m c i = true := by
        have e0 : i = 0 := by omega
        subst e0; rfl
      rw [hR.1, hR.2]
      rw [hR.2] at hM
      clear hR hrb no
      have yes := yes hs
      simp -dsimp -implicitDefEqProofs only [pick_nil, pick_cons, look_nil, look_cons, dropB_nil, dropB_cons, inD_nil, inD_cons, inE_nil, inE_cons, or_t_l, or_f_l, Nat.reduceBEq, Nat.reduceDiv, Nat.reduceAdd, beq_self_eq_true, Bool.false_eq_true, Bool.or_false, ↓reduceIte, Nat.reduceEqDiff, List.cons_append, List.nil_append]
      rw [hM]
      simp -dsimp -implicitDefEqProofs only [go_sem, ↓reduceIte, Nat.reduceEqDiff, Nat.reduceLT, Nat.reduceAdd, Nat.reduceMul, Nat.reduceLeDiff, Nat.le_refl, Int.natCast_zero, Int.toNat_natCast, Int.reduceToNat, li, gi, g3]
      repeat' first
        | (refine Br.intro (fun _ => ?_) (fun _ => ?_) <;> try simp -dsimp -implicitDefEqProofs only [go_sem, ↓reduceIte, Nat.reduceEqDiff, Nat.reduceLT, Nat.reduceAdd, Nat.reduceMul, Nat.reduceLeDiff, Nat.le_refl, Int.natCast_zero, Int.toNat_natCast, Int.reduceToNat, *])
        | (with_reducible refine And.intro ?_ ?_)
        | (refine Later.draw mixed rfl ?_; try simp -dsimp -implicitDefEqProofs only [go_sem, ↓reduceIte, Nat.reduceEqDiff, Nat.reduceLT, Nat.reduceAdd, Nat.reduceMul, Nat.reduceLeDiff, Nat.le_refl, Int.natCast_zero, Int.toNat_natCast, Int.reduceToNat, li, gi, g3])
      all_goals first
        | exact yes
        | (first | omega | (refine ⟨?_, ?_⟩ <;> omega) | (simp; done) | (simp; omega) | (refine ⟨?_, ?_⟩ <;> omega) | rfl | (simp; done) | (simp_all; done) | (simp_all; omega) | (exfalso; simp_all [bne]; done) | trace_state)
    · have hi' : i - 1 < c.length := by omega
      have e2 := hel (i - 1) hi'
      have g2 : c[((i : Int) - 1).toNat]? = some c[i - 1] := by rw [pred_toNat hi0]; exact get_some hi'
      have g3 : decide ((i : Int) > 0) = true := by simp; omega
      have hs : stepAt m c i = decide (absN (c[i] - c[i - 1]) ≤ m.step) := by
        rw [stepAt, show (i == 0) = false by simp; omega]
        simp [List.getD_eq_getElem?_getD, hi, hi']
      have hR : ((runTo c (i + 1) : Nat) : Int) = if (c[i] == c[i - 1]) = true then (runTo c i : Int) + 1 else 0 + 1 := by
        obtain ⟨j, rfl⟩ : ∃ j, i = j + 1 := ⟨i - 1, by omega⟩
        rw [show runTo c (j + 1 + 1) = runAt c (j + 1) from rfl, show runTo c (j + 1) = runAt c j from rfl, runAt]
        simp only [Nat.add_sub_cancel]
        have q1 : c.getD (j + 1) 0 = c[j + 1] := by simp [List.getD_eq_getElem?_getD, hi]
        have q2 : c.getD j 0 = c[j] := by simp [List.getD_eq_getElem?_getD, show j < c.length by omega]
        rw [q1, q2]
        by_cases hq : c[j + 1] = c[j]
        · rw [if_pos hq, if_pos (by simpa using hq)]; simp
        · rw [if_neg hq, if_neg (by simpa using hq)]; simp
      rw [hs] at no yes
      have yes' : decide (absN (c[i] - c[i - 1]) > m.step) = false → (List.range (i + 1)).all (stepAt m c) = true := fun h => yes (decide_eq_true (by have := of_decide_eq_false h; omega))
      have no' : decide (absN (c[i] - c[i - 1]) > m.step) = true → fault m c = 3 := fun h => no (decide_eq_false (by have := of_decide_eq_true h; omega))
      have hab : absN (c[i] - c[i - 1]) ≤ 7 := by unfold absN; split <;> omega
      have hab0 : 0 ≤ absN (c[i] - c[i - 1]) := by unfold absN; split <;> omega
      generalize runTo c i = R at hR hrb
      generalize runTo c (i + 1) = R' at hR hrb hM
      clear hs
      simp -dsimp -implicitDefEqProofs only [pick_nil, pick_cons, look_nil, look_cons, dropB_nil, dropB_cons, inD_nil, inD_cons, inE_nil, inE_cons, or_t_l, or_f_l, Nat.reduceBEq, Nat.reduceDiv, Nat.reduceAdd, beq_self_eq_true, Bool.false_eq_true, Bool.or_false, ↓reduceIte, Nat.reduceEqDiff, List.cons_append, List.nil_append]
      rw [hM]
      clear hM
      rw [hR]
      simp -dsimp -implicitDefEqProofs only [go_sem, ↓reduceIte, Nat.reduceEqDiff, Nat.reduceLT, Nat.reduceAdd, Nat.reduceMul, Nat.reduceLeDiff, Nat.le_refl, Int.natCast_zero, Int.toNat_natCast, Int.reduceToNat, li, gi, g2, g3]
      repeat' first
        | (refine Br.intro (fun _ => ?_) (fun _ => ?_) <;> try simp -dsimp -implicitDefEqProofs only [go_sem, ↓reduceIte, Nat.reduceEqDiff, Nat.reduceLT, Nat.reduceAdd, Nat.reduceMul, Nat.reduceLeDiff, Nat.le_refl, Int.natCast_zero, Int.toNat_natCast, Int.reduceToNat, *])
        | (with_reducible refine And.intro ?_ ?_)
        | (refine Later.draw mixed rfl ?_; try simp -dsimp -implicitDefEqProofs only [go_sem, ↓reduceIte, Nat.reduceEqDiff, Nat.reduceLT, Nat.reduceAdd, Nat.reduceMul, Nat.reduceLeDiff, Nat.le_refl, Int.natCast_zero, Int.toNat_natCast, Int.reduceToNat, li, gi, g2, g3])
        | (refine sCallX_one (c_l01Abs _ (by omega)) ?_; try simp -dsimp -implicitDefEqProofs only [go_sem, ↓reduceIte, Nat.reduceEqDiff, Nat.reduceLT, Nat.reduceAdd, Nat.reduceMul, Nat.reduceLeDiff, Nat.le_refl, Int.natCast_zero, Int.toNat_natCast, Int.reduceToNat, *])
      all_goals first
        | (rw [no' (by assumption)]; done)
        | (rw [← List.range_succ]; exact yes' (by assumption))
        | (first | omega | (refine ⟨?_, ?_⟩ <;> omega) | (simp; done) | (simp; omega) | (refine ⟨?_, ?_⟩ <;> omega) | rfl | (simp; done) | (simp_all; done) | (simp_all; omega) | (exfalso; simp_all [bne]; done) | trace_state)
  · have hMl := mostTo_le c m.same (by omega) c.length
    rw [hI, if_neg (by decide)] at hF
    rw [hF]
    clear hF hel hI
    rcases hq : ((List.range c.length).all fun i => decide ((runAt c i : Int) ≤ m.same)) with _ | _
    all_goals
      rw [hq] at hMl
      clear hq
      by_cases hk : (kindsTo c c.length : Int) < m.least
    all_goals
      have hk' := hk
      first | rw [if_pos hk] | rw [if_neg hk]
      first | replace hk' := decide_eq_true hk' | replace hk' := decide_eq_false hk'
      clear hk
      simp -dsimp -implicitDefEqProofs only [pick_nil, pick_cons, look_nil, look_cons, dropB_nil, dropB_cons, inD_nil, inD_cons, inE_nil, inE_cons, or_t_l, or_f_l, Nat.reduceBEq, Nat.reduceDiv, Nat.reduceAdd, beq_self_eq_true, Bool.false_eq_true, Bool.or_false, ↓reduceIte, Nat.reduceEqDiff, List.cons_append, List.nil_append]
      simp -dsimp -implicitDefEqProofs only [go_sem, ↓reduceIte, Nat.reduceEqDiff, Nat.reduceLT, Nat.reduceAdd, Nat.reduceMul, Nat.reduceLeDiff, Nat.le_refl, Int.natCast_zero, Int.toNat_natCast, Int.reduceToNat, nlt_len, hMl]
      repeat' first
        | (refine Br.intro (fun _ => ?_) (fun _ => ?_) <;> try simp -dsimp -implicitDefEqProofs only [go_sem, ↓reduceIte, Nat.reduceEqDiff, Nat.reduceLT, Nat.reduceAdd, Nat.reduceMul, Nat.reduceLeDiff, Nat.le_refl, Int.natCast_zero, Int.toNat_natCast, Int.reduceToNat, *])
        | (with_reducible refine And.intro ?_ ?_)
        | (refine Later.draw mixed rfl ?_; try simp -dsimp -implicitDefEqProofs only [go_sem, ↓reduceIte, Nat.reduceEqDiff, Nat.reduceLT, Nat.reduceAdd, Nat.reduceMul, Nat.reduceLeDiff, Nat.le_refl, Int.natCast_zero, Int.toNat_natCast, Int.reduceToNat, nlt_len, hMl, hk'])
        | (refine sCallX_one (c_l02Kinds c h) ?_; try simp -dsimp -implicitDefEqProofs only [go_sem, ↓reduceIte, Nat.reduceEqDiff, Nat.reduceLT, Nat.reduceAdd, Nat.reduceMul, Nat.reduceLeDiff, Nat.le_refl, Int.natCast_zero, Int.toNat_natCast, Int.reduceToNat, *])
      all_goals (first | omega | (refine ⟨?_, ?_⟩ <;> omega) | (simp; done) | (simp; omega) | (refine ⟨?_, ?_⟩ <;> omega) | rfl | (simp; done) | (simp_all; done) | (simp_all; omega) | (exfalso; simp_all [bne]; done) | trace_state)
theorem c_keyFault (m : MkM) (c : List Int) (hm : isMk m = true) (h : c.length ≤ 1048576) : Fn Tryz.prog 172 [eMk m, eIs c] true (· = eI (fault m c)) := by
  refine Fn.of_vcN 55 [.tmp 4] Tryz.func172 rfl rfl rfl rfl rfl (of_decide_eq_true rfl) ?_
  rcases hl : ((c.length : Int) == m.chambers) with _ | _
  · have hF : fault m c = 1 := by rw [fault, if_pos (by simpa using hl)]
    rw [hF]
    simp -dsimp -implicitDefEqProofs only [go_sem, ↓reduceIte, Nat.reduceEqDiff, Nat.reduceLT, Nat.reduceAdd, Nat.reduceMul, Nat.reduceLeDiff, Nat.le_refl, Int.natCast_zero, Int.toNat_natCast, Int.reduceToNat, hl]
    repeat' first
      | (refine Br.intro (fun _ => ?_) (fun _ => ?_) <;> try simp -dsimp -implicitDefEqProofs only [go_sem, ↓reduceIte, Nat.reduceEqDiff, Nat.reduceLT, Nat.reduceAdd, Nat.reduceMul, Nat.reduceLeDiff, Nat.le_refl, Int.natCast_zero, Int.toNat_natCast, Int.reduceToNat, *])
      | (with_reducible refine And.intro ?_ ?_)
    all_goals (first | omega | (refine ⟨?_, ?_⟩ <;> omega) | (simp; done) | (simp; omega) | (refine ⟨?_, ?_⟩ <;> omega) | rfl | (simp; done) | (simp_all; done) | (simp_all; omega) | (exfalso; simp_all [bne]; done) | trace_state)
  have hle : ¬ (c.length : Int) ≠ m.chambers := by simpa using hl
  have hc := c_areCutsK m c hm h
  rcases ha : (c.all fun x => isIn x 0 (m.depths - 1)) with _ | _
  · have hF : fault m c = 2 := by rw [fault, if_neg hle, if_pos ha]
    rw [ha, hl] at hc
    rw [hF]
    clear hF ha hle
    simp -dsimp -implicitDefEqProofs only [go_sem, ↓reduceIte, Nat.reduceEqDiff, Nat.reduceLT, Nat.reduceAdd, Nat.reduceMul, Nat.reduceLeDiff, Nat.le_refl, Int.natCast_zero, Int.toNat_natCast, Int.reduceToNat, hl]
    repeat' first
      | (refine Br.intro (fun _ => ?_) (fun _ => ?_) <;> try simp -dsimp -implicitDefEqProofs only [go_sem, ↓reduceIte, Nat.reduceEqDiff, Nat.reduceLT, Nat.reduceAdd, Nat.reduceMul, Nat.reduceLeDiff, Nat.le_refl, Int.natCast_zero, Int.toNat_natCast, Int.reduceToNat, *])
      | (with_reducible refine And.intro ?_ ?_)
      | (refine sCallT_one (hc) ?_; try simp -dsimp -implicitDefEqProofs only [go_sem, ↓reduceIte, Nat.reduceEqDiff, Nat.reduceLT, Nat.reduceAdd, Nat.reduceMul, Nat.reduceLeDiff, Nat.le_refl, Int.natCast_zero, Int.toNat_natCast, Int.reduceToNat, *])
    all_goals (first | omega | (refine ⟨?_, ?_⟩ <;> omega) | (simp; done) | (simp; omega) | (refine ⟨?_, ?_⟩ <;> omega) | rfl | (simp; done) | (simp_all; done) | (simp_all; omega) | (exfalso; simp_all [bne]; done) | trace_state)
  have hF : fault m c = if ((List.range c.length).all (stepAt m c)) = false then 3 else if ((List.range c.length).all fun i => decide ((runAt c i : Int) ≤ m.same)) = false then 4 else if (kindsTo c c.length : Int) < m.least then 5 else 0 := by
    rw [fault, if_neg hle, if_neg (by simp [ha])]
  rw [ha, hl] at hc
  have hel := elem_in hm ha
  have hsm := isMk_same hm
  have hkl := kindsTo_le c c.length
  have hch : 2 ≤ c.length ∧ c.length ≤ 6 := by have := isMk_num hm; omega
  clear ha hle
  simp -dsimp -implicitDefEqProofs only [go_sem, ↓reduceIte, Nat.reduceEqDiff, Nat.reduceLT, Nat.reduceAdd, Nat.reduceMul, Nat.reduceLeDiff, Nat.le_refl, Int.natCast_zero, Int.toNat_natCast, Int.reduceToNat, hl]
  repeat' first
    | (refine Br.intro (fun _ => ?_) (fun _ => ?_) <;> try simp -dsimp -implicitDefEqProofs only [go_sem, ↓reduceIte, Nat.reduceEqDiff, Nat.reduceLT, Nat.reduceAdd, Nat.reduceMul, Nat.reduceLeDiff, Nat.le_refl, Int.natCast_zero, Int.toNat_natCast, Int.reduceToNat, *])
    | (with_reducible refine And.intro ?_ ?_)
    | (refine sCallT_one (hc) ?_; try simp -dsimp -implicitDefEqProofs only [go_sem, ↓reduceIte, Nat.reduceEqDiff, Nat.reduceLT, Nat.reduceAdd, Nat.reduceMul, Nat.reduceLeDiff, Nat.le_refl, Int.natCast_zero, Int.toNat_natCast, Int.reduceToNat, *])
  all_goals try (first | omega | (simp; done) | (simp_all; done))
  clear hl hc
  refine Later.up [1, 2] [18, 32] [] (c.length - 1) (fun i => (List.range (i + 1)).all (stepAt m c)) (fun i => [(5, eI ((i + 1 : Nat) : Int))]) (fun _ => []) (by simp [stepAt]) ?_ rfl (fun i hi hI => ?_) (fun hI => ?_)
  · simp -dsimp -implicitDefEqProofs only [go_sem, ↓reduceIte, Nat.reduceEqDiff, Nat.reduceLT, Nat.reduceAdd, Nat.reduceMul, Nat.reduceLeDiff, Nat.le_refl, Int.natCast_zero, Int.toNat_natCast, Int.reduceToNat]
    all_goals (first | omega | (refine ⟨?_, ?_⟩ <;> omega) | (simp; done) | (simp; omega) | (refine ⟨?_, ?_⟩ <;> omega) | rfl | (simp; done) | (simp_all; done) | (simp_all; omega) | (exfalso; simp_all [bne]; done) | trace_state)
  · have hi1 : i + 1 < c.length := by omega
    have hi0 : i < c.length := by omega
    have no : stepAt m c (i + 1) = false → fault m c = 3 := fun h => by rw [hF, if_pos (range_all_no hi1 h)]
    have yes : stepAt m c (i + 1) = true → (List.range (i + 1 + 1)).all (stepAt m c) = true := fun h => by rw [range_all_succ, hI, h]; rfl
    have e1 := hel i hi0
    have e2 := hel (i + 1) hi1
    have g1 := get_some hi1
    have g2 : c[(((i + 1 : Nat) : Int) - 1).toNat]? = some c[i] := by rw [show (((i + 1 : Nat) : Int) - 1).toNat = i by omega]; exact get_some hi0
    have li := lt_len hi1
    have hs : stepAt m c (i + 1) = decide (absN (c[i + 1] - c[i]) ≤ m.step) := by
      rw [stepAt, show (i + 1 == 0) = false by simp]
      simp [List.getD_eq_getElem?_getD, hi0, hi1]
    rw [hs] at no yes
    have yes' : decide (absN (c[i + 1] - c[i]) > m.step) = false → (List.range (i + 1 + 1)).all (stepAt m c) = true := fun h => yes (decide_eq_true (by have := of_decide_eq_false h; omega))
    have no' : decide (absN (c[i + 1] - c[i]) > m.step) = true → fault m c = 3 := fun h => no (decide_eq_false (by have := of_decide_eq_true h; omega))
    have hab : absN (c[i + 1] - c[i]) ≤ 7 := by unfold absN; split <;> omega
    have hab0 : 0 ≤ absN (c[i + 1] - c[i]) := by unfold absN; split <;> omega
    clear hF hI hs
    simp -dsimp -implicitDefEqProofs only [pick_nil, pick_cons, look_nil, look_cons, dropB_nil, dropB_cons, inD_nil, inD_cons, inE_nil, inE_cons, or_t_l, or_f_l, Nat.reduceBEq, Nat.reduceDiv, Nat.reduceAdd, beq_self_eq_true, Bool.false_eq_true, Bool.or_false, ↓reduceIte, Nat.reduceEqDiff, List.cons_append, List.nil_append]
    simp -dsimp -implicitDefEqProofs only [go_sem, ↓reduceIte, Nat.reduceEqDiff, Nat.reduceLT, Nat.reduceAdd, Nat.reduceMul, Nat.reduceLeDiff, Nat.le_refl, Int.natCast_zero, Int.toNat_natCast, Int.reduceToNat, li, g1, g2]
    repeat' first
      | (refine Br.intro (fun _ => ?_) (fun _ => ?_) <;> try simp -dsimp -implicitDefEqProofs only [go_sem, ↓reduceIte, Nat.reduceEqDiff, Nat.reduceLT, Nat.reduceAdd, Nat.reduceMul, Nat.reduceLeDiff, Nat.le_refl, Int.natCast_zero, Int.toNat_natCast, Int.reduceToNat, *])
      | (with_reducible refine And.intro ?_ ?_)
      | (refine Later.draw mixed rfl ?_; try simp -dsimp -implicitDefEqProofs only [go_sem, ↓reduceIte, Nat.reduceEqDiff, Nat.reduceLT, Nat.reduceAdd, Nat.reduceMul, Nat.reduceLeDiff, Nat.le_refl, Int.natCast_zero, Int.toNat_natCast, Int.reduceToNat, li, g1, g2])
      | (refine sCallX_one (c_absolute _ (by omega)) ?_; try simp -dsimp -implicitDefEqProofs only [go_sem, ↓reduceIte, Nat.reduceEqDiff, Nat.reduceLT, Nat.reduceAdd, Nat.reduceMul, Nat.reduceLeDiff, Nat.le_refl, Int.natCast_zero, Int.toNat_natCast, Int.reduceToNat, *])
    all_goals first
      | (rw [no' (by assumption)]; done)
      | (exact yes' (by assumption))
      | (simp only [List.range_succ] at yes' ⊢; exact yes' (by assumption))
      | (first | omega | (refine ⟨?_, ?_⟩ <;> omega) | (simp; done) | (simp; omega) | (refine ⟨?_, ?_⟩ <;> omega) | rfl | (simp; done) | (simp_all; done) | (simp_all; omega) | (exfalso; simp_all [bne]; done) | trace_state)
  · have hcl : c.length - 1 + 1 = c.length := by omega
    rw [hcl] at hI ⊢
    rw [hI, if_neg (by decide)] at hF
    clear hel hI hcl
    simp -dsimp -implicitDefEqProofs only [pick_nil, pick_cons, look_nil, look_cons, dropB_nil, dropB_cons, inD_nil, inD_cons, inE_nil, inE_cons, or_t_l, or_f_l, Nat.reduceBEq, Nat.reduceDiv, Nat.reduceAdd, beq_self_eq_true, Bool.false_eq_true, Bool.or_false, ↓reduceIte, Nat.reduceEqDiff, List.cons_append, List.nil_append]
    simp -dsimp -implicitDefEqProofs only [go_sem, ↓reduceIte, Nat.reduceEqDiff, Nat.reduceLT, Nat.reduceAdd, Nat.reduceMul, Nat.reduceLeDiff, Nat.le_refl, Int.natCast_zero, Int.toNat_natCast, Int.reduceToNat, nlt_len]
    repeat' first
      | (refine Br.intro (fun _ => ?_) (fun _ => ?_) <;> try simp -dsimp -implicitDefEqProofs only [go_sem, ↓reduceIte, Nat.reduceEqDiff, Nat.reduceLT, Nat.reduceAdd, Nat.reduceMul, Nat.reduceLeDiff, Nat.le_refl, Int.natCast_zero, Int.toNat_natCast, Int.reduceToNat, *])
      | (with_reducible refine And.intro ?_ ?_)
    all_goals try (first | omega | rfl | (simp; done))
    refine Later.up [1, 2, 37] [45] [] c.length (fun i => (List.range i).all fun i => decide ((runAt c i : Int) ≤ m.same)) (fun i => [(38, eI i)]) (fun _ => []) (by simp) ?_ rfl (fun i hi hI => ?_) (fun hI => ?_)
    · simp -dsimp -implicitDefEqProofs only [go_sem, ↓reduceIte, Nat.reduceEqDiff, Nat.reduceLT, Nat.reduceAdd, Nat.reduceMul, Nat.reduceLeDiff, Nat.le_refl, Int.natCast_zero, Int.toNat_natCast, Int.reduceToNat]
      all_goals (first | omega | (refine ⟨?_, ?_⟩ <;> omega) | (simp; done) | (simp; omega) | (refine ⟨?_, ?_⟩ <;> omega) | rfl | (simp; done) | (simp_all; done) | (simp_all; omega) | (exfalso; simp_all [bne]; done) | trace_state)
    · have no : decide ((runAt c i : Int) ≤ m.same) = false → fault m c = 4 := fun h => by rw [hF, if_pos (range_all_no (p := fun i => decide ((runAt c i : Int) ≤ m.same)) hi h)]
      have yes : decide ((runAt c i : Int) ≤ m.same) = true → ((List.range (i + 1)).all fun i => decide ((runAt c i : Int) ≤ m.same)) = true := fun h => by rw [range_all_succ, hI, h]; rfl
      have yes' : decide ((runAt c i : Int) > m.same) = false → ((List.range (i + 1)).all fun i => decide ((runAt c i : Int) ≤ m.same)) = true := fun h => yes (decide_eq_true (by have := of_decide_eq_false h; omega))
      have no' : decide ((runAt c i : Int) > m.same) = true → fault m c = 4 := fun h => no (decide_eq_false (by have := of_decide_eq_true h; omega))
      have hrl := (runAt_spec c i).2.1
      have hcr := c_sameRun (c.take (i + 1)) (by simp; omega) (by simp; omega)
      have hll : (c.take (i + 1)).length - 1 = i := by simp; omega
      rw [hll, runAt_take c (i + 1) i (by omega)] at hcr
      have li := lt_len hi
      have e3 : ((i : Int) + 1).toNat = i + 1 := by omega
      clear hF hI no yes hll
      simp -dsimp -implicitDefEqProofs only [pick_nil, pick_cons, look_nil, look_cons, dropB_nil, dropB_cons, inD_nil, inD_cons, inE_nil, inE_cons, or_t_l, or_f_l, Nat.reduceBEq, Nat.reduceDiv, Nat.reduceAdd, beq_self_eq_true, Bool.false_eq_true, Bool.or_false, ↓reduceIte, Nat.reduceEqDiff, List.cons_append, List.nil_append]
      simp -dsimp -implicitDefEqProofs only [go_sem, ↓reduceIte, Nat.reduceEqDiff, Nat.reduceLT, Nat.reduceAdd, Nat.reduceMul, Nat.reduceLeDiff, Nat.le_refl, Int.natCast_zero, Int.toNat_natCast, Int.reduceToNat, li]
      repeat' first
        | (refine Br.intro (fun _ => ?_) (fun _ => ?_) <;> try simp -dsimp -implicitDefEqProofs only [go_sem, ↓reduceIte, Nat.reduceEqDiff, Nat.reduceLT, Nat.reduceAdd, Nat.reduceMul, Nat.reduceLeDiff, Nat.le_refl, Int.natCast_zero, Int.toNat_natCast, Int.reduceToNat, *])
        | (with_reducible refine And.intro ?_ ?_)
        | (refine Later.draw mixed rfl ?_; try simp -dsimp -implicitDefEqProofs only [go_sem, ↓reduceIte, Nat.reduceEqDiff, Nat.reduceLT, Nat.reduceAdd, Nat.reduceMul, Nat.reduceLeDiff, Nat.le_refl, Int.natCast_zero, Int.toNat_natCast, Int.reduceToNat, li, e3])
        | (rw [← List.map_take]; refine sCallX_one hcr ?_; try simp -dsimp -implicitDefEqProofs only [go_sem, ↓reduceIte, Nat.reduceEqDiff, Nat.reduceLT, Nat.reduceAdd, Nat.reduceMul, Nat.reduceLeDiff, Nat.le_refl, Int.natCast_zero, Int.toNat_natCast, Int.reduceToNat, *])
      all_goals first
        | (rw [no' (by assumption)]; done)
        | (exact yes' (by assumption))
        | (rw [← List.range_succ]; exact yes' (by assumption))
        | (first | omega | (refine ⟨?_, ?_⟩ <;> omega) | (simp; done) | (simp; omega) | (refine ⟨?_, ?_⟩ <;> omega) | rfl | (simp; done) | (simp_all; done) | (simp_all; omega) | (exfalso; simp_all [bne]; done) | trace_state)
    · rw [hI, if_neg (by decide)] at hF
      rw [hF]
      clear hF hI
      by_cases hk : (kindsTo c c.length : Int) < m.least
      all_goals
        have hk' := hk
        first | rw [if_pos hk] | rw [if_neg hk]
        first | replace hk' := decide_eq_true hk' | replace hk' := decide_eq_false hk'
        clear hk
        simp -dsimp -implicitDefEqProofs only [pick_nil, pick_cons, look_nil, look_cons, dropB_nil, dropB_cons, inD_nil, inD_cons, inE_nil, inE_cons, or_t_l, or_f_l, Nat.reduceBEq, Nat.reduceDiv, Nat.reduceAdd, beq_self_eq_true, Bool.false_eq_true, Bool.or_false, ↓reduceIte, Nat.reduceEqDiff, List.cons_append, List.nil_append]
        simp -dsimp -implicitDefEqProofs only [go_sem, ↓reduceIte, Nat.reduceEqDiff, Nat.reduceLT, Nat.reduceAdd, Nat.reduceMul, Nat.reduceLeDiff, Nat.le_refl, Int.natCast_zero, Int.toNat_natCast, Int.reduceToNat, nlt_len]
        repeat' first
          | (refine Br.intro (fun _ => ?_) (fun _ => ?_) <;> try simp -dsimp -implicitDefEqProofs only [go_sem, ↓reduceIte, Nat.reduceEqDiff, Nat.reduceLT, Nat.reduceAdd, Nat.reduceMul, Nat.reduceLeDiff, Nat.le_refl, Int.natCast_zero, Int.toNat_natCast, Int.reduceToNat, *])
          | (with_reducible refine And.intro ?_ ?_)
          | (refine Later.draw mixed rfl ?_; try simp -dsimp -implicitDefEqProofs only [go_sem, ↓reduceIte, Nat.reduceEqDiff, Nat.reduceLT, Nat.reduceAdd, Nat.reduceMul, Nat.reduceLeDiff, Nat.le_refl, Int.natCast_zero, Int.toNat_natCast, Int.reduceToNat, nlt_len, hk'])
          | (refine sCallX_one (c_different c h) ?_; try simp -dsimp -implicitDefEqProofs only [go_sem, ↓reduceIte, Nat.reduceEqDiff, Nat.reduceLT, Nat.reduceAdd, Nat.reduceMul, Nat.reduceLeDiff, Nat.le_refl, Int.natCast_zero, Int.toNat_natCast, Int.reduceToNat, *])
        all_goals (first | omega | (refine ⟨?_, ?_⟩ <;> omega) | (simp; done) | (simp; omega) | (refine ⟨?_, ?_⟩ <;> omega) | rfl | (simp; done) | (simp_all; done) | (simp_all; omega) | (exfalso; simp_all [bne]; done) | trace_state)
end Go.Vc


/-
  Contracts: keys; desks; the law FnExactIsDesk.
-/
set_option linter.unusedVariables false
set_option linter.unusedSimpArgs false
set_option linter.unnecessarySimpa false
namespace Go.Vc
open Go.Proofs
set_option maxRecDepth 100000
def key1 (m : MkM) (c : List Int) : Bool := fault m c == 0
theorem c_isKey (m : MkM) (c : List Int) (hm : isMk m = true) (h : c.length ≤ 1048576) : Fn Tryz.prog 161 [eMk m, eIs c] true (· = eB (key1 m c)) := by
  refine Fn.of_vcN 9 [.tmp 4] Tryz.func161 rfl rfl rfl rfl rfl (of_decide_eq_true rfl) ?_
  simp -dsimp -implicitDefEqProofs only [go_sem, ↓reduceIte, Nat.reduceEqDiff, Nat.reduceLT, Nat.reduceAdd, Nat.reduceMul, Nat.reduceLeDiff, Nat.le_refl, Int.natCast_zero, Int.toNat_natCast, Int.reduceToNat]
  repeat' first
    | (refine Br.intro (fun _ => ?_) (fun _ => ?_) <;> try simp -dsimp -implicitDefEqProofs only [go_sem, ↓reduceIte, Nat.reduceEqDiff, Nat.reduceLT, Nat.reduceAdd, Nat.reduceMul, Nat.reduceLeDiff, Nat.le_refl, Int.natCast_zero, Int.toNat_natCast, Int.reduceToNat, *])
    | (with_reducible refine And.intro ?_ ?_)
    | (refine sCallT_one (c_keyFault m c hm h) ?_; try simp -dsimp -implicitDefEqProofs only [go_sem, ↓reduceIte, Nat.reduceEqDiff, Nat.reduceLT, Nat.reduceAdd, Nat.reduceMul, Nat.reduceLeDiff, Nat.le_refl, Int.natCast_zero, Int.toNat_natCast, Int.reduceToNat, *])
  all_goals first | omega | (refine ⟨?_, ?_⟩ <;> omega) | rfl | (simp; done) | (simp_all [key1]; done) | (simp_all [key1]; omega) | (simp_all [key1]; split <;> simp_all <;> omega) | trace_state
theorem c_l04Keys (m : MkM) (ks : List (List Int)) (hm : isMk m = true) (h : ks.length ≤ 1048576) (h2 : ∀ x ∈ ks, x.length ≤ 1048576) : Fn Tryz.prog 158 [eMk m, eIss ks] true (· = eB (ks.all (key1 m) && decide ((ks.length : Int) ≤ 300))) := by
  refine Fn.of_vcN 22 [.tmp 4] Tryz.func158 rfl rfl rfl rfl rfl (of_decide_eq_true rfl) ?_
  simp -dsimp -implicitDefEqProofs only [go_sem, ↓reduceIte, Nat.reduceEqDiff, Nat.reduceLT, Nat.reduceAdd, Nat.reduceMul, Nat.reduceLeDiff, Nat.le_refl, Int.natCast_zero, Int.toNat_natCast, Int.reduceToNat]
  refine Later.up [1, 2] [8, 17] [] ks.length (fun i => (ks.take i).all (key1 m)) (fun i => [(5, eI i)]) (fun _ => []) (by simp) ?_ rfl (fun i hi hI => ?_) (fun hI => ?_)
  · simp -dsimp -implicitDefEqProofs only [go_sem, ↓reduceIte, Nat.reduceEqDiff, Nat.reduceLT, Nat.reduceAdd, Nat.reduceMul, Nat.reduceLeDiff, Nat.le_refl, Int.natCast_zero, Int.toNat_natCast, Int.reduceToNat]
  · have gi := get_some hi
    have li := lt_len hi
    have no : key1 m ks[i] = false → ks.all (key1 m) = false := fun h => all_no hi h
    have yes : key1 m ks[i] = true → (ks.take (i + 1)).all (key1 m) = true := fun h => by rw [all_take _ _ _ hi, hI, h]; rfl
    have yes' : (fault m ks[i] != 0) = false → (ks.take (i + 1)).all (key1 m) = true := fun h => yes (by simpa [key1] using h)
    have no' : (fault m ks[i] != 0) = true → ks.all (key1 m) = false := fun h => no (by simpa [key1] using h)
    have hc := c_l02Fault m ks[i] hm (h2 _ (List.getElem_mem hi))
    clear no yes hI
    simp -dsimp -implicitDefEqProofs only [pick_nil, pick_cons, look_nil, look_cons, dropB_nil, dropB_cons, inD_nil, inD_cons, inE_nil, inE_cons, or_t_l, or_f_l, Nat.reduceBEq, Nat.reduceDiv, Nat.reduceAdd, beq_self_eq_true, Bool.false_eq_true, Bool.or_false, ↓reduceIte, Nat.reduceEqDiff, List.cons_append, List.nil_append]
    simp -dsimp -implicitDefEqProofs only [go_sem, ↓reduceIte, Nat.reduceEqDiff, Nat.reduceLT, Nat.reduceAdd, Nat.reduceMul, Nat.reduceLeDiff, Nat.le_refl, Int.natCast_zero, Int.toNat_natCast, Int.reduceToNat, li, gi]
    repeat' first
      | (refine Br.intro (fun _ => ?_) (fun _ => ?_) <;> try simp -dsimp -implicitDefEqProofs only [go_sem, ↓reduceIte, Nat.reduceEqDiff, Nat.reduceLT, Nat.reduceAdd, Nat.reduceMul, Nat.reduceLeDiff, Nat.le_refl, Int.natCast_zero, Int.toNat_natCast, Int.reduceToNat, *])
      | (with_reducible refine And.intro ?_ ?_)
      | (refine Later.draw mixed rfl ?_; try simp -dsimp -implicitDefEqProofs only [go_sem, ↓reduceIte, Nat.reduceEqDiff, Nat.reduceLT, Nat.reduceAdd, Nat.reduceMul, Nat.reduceLeDiff, Nat.le_refl, Int.natCast_zero, Int.toNat_natCast, Int.reduceToNat, li, gi])
      | (refine sCallX_one (hc) ?_; try simp -dsimp -implicitDefEqProofs only [go_sem, ↓reduceIte, Nat.reduceEqDiff, Nat.reduceLT, Nat.reduceAdd, Nat.reduceMul, Nat.reduceLeDiff, Nat.le_refl, Int.natCast_zero, Int.toNat_natCast, Int.reduceToNat, *])
    all_goals first
      | (rw [no' (by assumption)]; rfl)
      | (exact yes' (by assumption))
      | (first | omega | (refine ⟨?_, ?_⟩ <;> omega) | (simp; done) | (simp; omega) | (refine ⟨?_, ?_⟩ <;> omega) | rfl | (simp; done) | (simp_all; done) | (simp_all; omega) | (exfalso; simp_all [bne]; done) | trace_state)
  · rw [List.take_length] at hI
    rw [hI]
    simp -dsimp -implicitDefEqProofs only [pick_nil, pick_cons, look_nil, look_cons, dropB_nil, dropB_cons, inD_nil, inD_cons, inE_nil, inE_cons, or_t_l, or_f_l, Nat.reduceBEq, Nat.reduceDiv, Nat.reduceAdd, beq_self_eq_true, Bool.false_eq_true, Bool.or_false, ↓reduceIte, Nat.reduceEqDiff, List.cons_append, List.nil_append]
    simp -dsimp -implicitDefEqProofs only [go_sem, ↓reduceIte, Nat.reduceEqDiff, Nat.reduceLT, Nat.reduceAdd, Nat.reduceMul, Nat.reduceLeDiff, Nat.le_refl, Int.natCast_zero, Int.toNat_natCast, Int.reduceToNat, nlt_len]
    all_goals (first | omega | (refine ⟨?_, ?_⟩ <;> omega) | (simp; done) | (simp; omega) | (refine ⟨?_, ?_⟩ <;> omega) | rfl | (simp; done) | (simp_all; done) | (simp_all; omega) | (exfalso; simp_all [bne]; done) | trace_state)
set_option maxHeartbeats 4000000 in
theorem c_areKeys (m : MkM) (ks : List (List Int)) (hm : isMk m = true) (h : ks.length ≤ 1048576) (h2 : ∀ x ∈ ks, x.length ≤ 1048576) : Fn Tryz.prog 139 [eMk m, eIss ks] true (· = eB (ks.all (key1 m))) := by
  refine Fn.of_vcN 9 [.tmp 4] Tryz.func139 rfl rfl rfl rfl rfl (of_decide_eq_true rfl) ?_
  have hyes : (∀ i (hi : i < ks.length), key1 m ks[i] = true) → ks.all (key1 m) = true := fun h => List.all_eq_true.2 fun x hx => by
    obtain ⟨i, hi, rfl⟩ := List.getElem_of_mem hx
    exact h i hi
  have hno : ∀ i (hi : i < ks.length), key1 m ks[i] = false → ks.all (key1 m) = false := fun i hi h => all_no hi h
  generalize ks.all (key1 m) = ok at hyes hno
  simp -dsimp -implicitDefEqProofs only [go_sem, ↓reduceIte, Nat.reduceEqDiff, Nat.reduceLT, Nat.reduceAdd, Nat.reduceMul, Nat.reduceLeDiff, Nat.le_refl, Int.natCast_zero, Int.toNat_natCast, Int.reduceToNat]
  ((repeat' (first | (refine Br.intro (fun _ => ?_) (fun _ => ?_) <;> try simp -dsimp -implicitDefEqProofs only [go_sem, ↓reduceIte, Nat.reduceEqDiff, Nat.reduceLT, Nat.reduceAdd, Nat.reduceMul, Nat.reduceLeDiff, Nat.le_refl, Int.natCast_zero, Int.toNat_natCast, Int.reduceToNat, *]) | (with_reducible refine And.intro ?_ ?_) | (refine Later.draw mixed rfl ?_; try simp -dsimp -implicitDefEqProofs only [go_sem, ↓reduceIte, Nat.reduceEqDiff, Nat.reduceLT, Nat.reduceAdd, Nat.reduceMul, Nat.reduceLeDiff, Nat.le_refl, Int.natCast_zero, Int.toNat_natCast, Int.reduceToNat, *]))); all_goals try (first | omega | (refine ⟨?_, ?_⟩ <;> omega) | (exact rfl) | (simp; done)))
  refine sCallT_inl 400000 9 [.tmp 4] Tryz.func159 rfl rfl rfl rfl rfl (by exact of_decide_eq_true rfl) ?_
  simp -dsimp -implicitDefEqProofs only [go_sem, ↓reduceIte, Nat.reduceEqDiff, Nat.reduceLT, Nat.reduceAdd, Nat.reduceMul, Nat.reduceLeDiff, Nat.le_refl, Int.natCast_zero, Int.toNat_natCast, Int.reduceToNat]
  refine sCallT_inl 410000 19 [.tmp 4] Tryz.func171 rfl rfl rfl rfl rfl (by exact of_decide_eq_true rfl) ?_
  simp -dsimp -implicitDefEqProofs only [go_sem, ↓reduceIte, Nat.reduceEqDiff, Nat.reduceLT, Nat.reduceAdd, Nat.reduceMul, Nat.reduceLeDiff, Nat.le_refl, Int.natCast_zero, Int.toNat_natCast, Int.reduceToNat]
  refine Later.up [0, 1, 7] [16] [] ks.length (fun i => ∀ j (hj : j < ks.length), j < i → key1 m ks[j] = true) (fun i => [(8, eI i)]) (fun _ => []) (fun j _ h => absurd h (Nat.not_lt_zero _)) ?_ rfl (fun i hi hI => ?_) (fun hI => ?_)
  · simp -dsimp -implicitDefEqProofs only [go_sem, ↓reduceIte, Nat.reduceEqDiff, Nat.reduceLT, Nat.reduceAdd, Nat.reduceMul, Nat.reduceLeDiff, Nat.le_refl, Int.natCast_zero, Int.toNat_natCast, Int.reduceToNat]
    all_goals first | (simp; done) | trace_state
  · have gi := get_some hi
    have li := lt_len hi
    have hc := c_isKey m ks[i] hm (h2 _ (List.getElem_mem hi))
    rcases hv : key1 m ks[i] with _ | _
    · rw [hv] at hc
      have hn := hno i hi hv
      clear hno hyes hI hv
      subst hn
      simp -dsimp -implicitDefEqProofs only [pick_nil, pick_cons, look_nil, look_cons, dropB_nil, dropB_cons, inD_nil, inD_cons, inE_nil, inE_cons, or_t_l, or_f_l, Nat.reduceBEq, Nat.reduceDiv, Nat.reduceAdd, beq_self_eq_true, Bool.false_eq_true, Bool.or_false, ↓reduceIte, Nat.reduceEqDiff, List.cons_append, List.nil_append]
      simp -dsimp -implicitDefEqProofs only [go_sem, ↓reduceIte, Nat.reduceEqDiff, Nat.reduceLT, Nat.reduceAdd, Nat.reduceMul, Nat.reduceLeDiff, Nat.le_refl, Int.natCast_zero, Int.toNat_natCast, Int.reduceToNat, gi, li]
      refine ⟨⟨by omega, by omega⟩, ?_⟩
      refine sCallT_inl 420000 8 [.tmp 3] Tryz.func160 rfl rfl rfl rfl rfl (by exact of_decide_eq_true rfl) ?_
      simp -dsimp -implicitDefEqProofs only [go_sem, ↓reduceIte, Nat.reduceEqDiff, Nat.reduceLT, Nat.reduceAdd, Nat.reduceMul, Nat.reduceLeDiff, Nat.le_refl, Int.natCast_zero, Int.toNat_natCast, Int.reduceToNat]
      repeat' first
        | (with_reducible refine And.intro ?_ ?_)
        | (refine sCallT_one (hc) ?_; try simp -dsimp -implicitDefEqProofs only [go_sem, ↓reduceIte, Nat.reduceEqDiff, Nat.reduceLT, Nat.reduceAdd, Nat.reduceMul, Nat.reduceLeDiff, Nat.le_refl, Int.natCast_zero, Int.toNat_natCast, Int.reduceToNat, *])
      ((repeat' (first | (refine Br.intro (fun _ => ?_) (fun _ => ?_) <;> try simp -dsimp -implicitDefEqProofs only [go_sem, ↓reduceIte, Nat.reduceEqDiff, Nat.reduceLT, Nat.reduceAdd, Nat.reduceMul, Nat.reduceLeDiff, Nat.le_refl, Int.natCast_zero, Int.toNat_natCast, Int.reduceToNat, *]) | (with_reducible refine And.intro ?_ ?_) | (refine Later.draw mixed rfl ?_; try simp -dsimp -implicitDefEqProofs only [go_sem, ↓reduceIte, Nat.reduceEqDiff, Nat.reduceLT, Nat.reduceAdd, Nat.reduceMul, Nat.reduceLeDiff, Nat.le_refl, Int.natCast_zero, Int.toNat_natCast, Int.reduceToNat, *]))); all_goals try (first | omega | (refine ⟨?_, ?_⟩ <;> omega) | (exact rfl) | (simp; done)))
      all_goals first
        | (rename_i h; exact absurd (of_decide_eq_false h) (by omega))
        | (first | omega | (refine ⟨?_, ?_⟩ <;> omega) | (simp; done) | (simp; omega) | (refine ⟨?_, ?_⟩ <;> omega) | rfl | (simp; done) | (simp_all; done) | (simp_all; omega) | (exfalso; simp_all [bne]; done) | trace_state)
    · rw [hv] at hc
      have hI' : ∀ j (hj : j < ks.length), j < i + 1 → key1 m ks[j] = true := fun j hj h => by
        by_cases hji : j = i
        · subst hji; exact hv
        · exact hI j hj (by omega)
      clear hno hyes hI hv
      simp -dsimp -implicitDefEqProofs only [pick_nil, pick_cons, look_nil, look_cons, dropB_nil, dropB_cons, inD_nil, inD_cons, inE_nil, inE_cons, or_t_l, or_f_l, Nat.reduceBEq, Nat.reduceDiv, Nat.reduceAdd, beq_self_eq_true, Bool.false_eq_true, Bool.or_false, ↓reduceIte, Nat.reduceEqDiff, List.cons_append, List.nil_append]
      simp -dsimp -implicitDefEqProofs only [go_sem, ↓reduceIte, Nat.reduceEqDiff, Nat.reduceLT, Nat.reduceAdd, Nat.reduceMul, Nat.reduceLeDiff, Nat.le_refl, Int.natCast_zero, Int.toNat_natCast, Int.reduceToNat, gi, li]
      refine ⟨⟨by omega, by omega⟩, ?_⟩
      refine sCallT_inl 420000 8 [.tmp 3] Tryz.func160 rfl rfl rfl rfl rfl (by exact of_decide_eq_true rfl) ?_
      simp -dsimp -implicitDefEqProofs only [go_sem, ↓reduceIte, Nat.reduceEqDiff, Nat.reduceLT, Nat.reduceAdd, Nat.reduceMul, Nat.reduceLeDiff, Nat.le_refl, Int.natCast_zero, Int.toNat_natCast, Int.reduceToNat]
      repeat' first
        | (with_reducible refine And.intro ?_ ?_)
        | (refine sCallT_one (hc) ?_; try simp -dsimp -implicitDefEqProofs only [go_sem, ↓reduceIte, Nat.reduceEqDiff, Nat.reduceLT, Nat.reduceAdd, Nat.reduceMul, Nat.reduceLeDiff, Nat.le_refl, Int.natCast_zero, Int.toNat_natCast, Int.reduceToNat, *])
      ((repeat' (first | (refine Br.intro (fun _ => ?_) (fun _ => ?_) <;> try simp -dsimp -implicitDefEqProofs only [go_sem, ↓reduceIte, Nat.reduceEqDiff, Nat.reduceLT, Nat.reduceAdd, Nat.reduceMul, Nat.reduceLeDiff, Nat.le_refl, Int.natCast_zero, Int.toNat_natCast, Int.reduceToNat, *]) | (with_reducible refine And.intro ?_ ?_) | (refine Later.draw mixed rfl ?_; try simp -dsimp -implicitDefEqProofs only [go_sem, ↓reduceIte, Nat.reduceEqDiff, Nat.reduceLT, Nat.reduceAdd, Nat.reduceMul, Nat.reduceLeDiff, Nat.le_refl, Int.natCast_zero, Int.toNat_natCast, Int.reduceToNat, *]))); all_goals try (first | omega | (refine ⟨?_, ?_⟩ <;> omega) | (exact rfl) | (simp; done)))
      all_goals first
        | exact hI'
        | (first | omega | (refine ⟨?_, ?_⟩ <;> omega) | (simp; done) | (simp; omega) | (refine ⟨?_, ?_⟩ <;> omega) | rfl | (simp; done) | (simp_all; done) | (simp_all; omega) | (exfalso; simp_all [bne]; done) | trace_state)
  · have hn := hyes fun j hj => hI j hj hj
    clear hno hyes hI
    subst hn
    simp -dsimp -implicitDefEqProofs only [pick_nil, pick_cons, look_nil, look_cons, dropB_nil, dropB_cons, inD_nil, inD_cons, inE_nil, inE_cons, or_t_l, or_f_l, Nat.reduceBEq, Nat.reduceDiv, Nat.reduceAdd, beq_self_eq_true, Bool.false_eq_true, Bool.or_false, ↓reduceIte, Nat.reduceEqDiff, List.cons_append, List.nil_append]
    simp -dsimp -implicitDefEqProofs only [go_sem, ↓reduceIte, Nat.reduceEqDiff, Nat.reduceLT, Nat.reduceAdd, Nat.reduceMul, Nat.reduceLeDiff, Nat.le_refl, Int.natCast_zero, Int.toNat_natCast, Int.reduceToNat, nlt_len]
    ((repeat' (first | (refine Br.intro (fun _ => ?_) (fun _ => ?_) <;> try simp -dsimp -implicitDefEqProofs only [go_sem, ↓reduceIte, Nat.reduceEqDiff, Nat.reduceLT, Nat.reduceAdd, Nat.reduceMul, Nat.reduceLeDiff, Nat.le_refl, Int.natCast_zero, Int.toNat_natCast, Int.reduceToNat, *]) | (with_reducible refine And.intro ?_ ?_) | (refine Later.draw mixed rfl ?_; try simp -dsimp -implicitDefEqProofs only [go_sem, ↓reduceIte, Nat.reduceEqDiff, Nat.reduceLT, Nat.reduceAdd, Nat.reduceMul, Nat.reduceLeDiff, Nat.le_refl, Int.natCast_zero, Int.toNat_natCast, Int.reduceToNat, *]))); all_goals try (first | omega | (refine ⟨?_, ?_⟩ <;> omega) | (exact rfl) | (simp; done)))
    all_goals first
      | (rename_i h; exact absurd h (by decide))
      | (first | omega | (refine ⟨?_, ?_⟩ <;> omega) | (simp; done) | (simp; omega) | (refine ⟨?_, ?_⟩ <;> omega) | rfl | (simp; done) | (simp_all; done) | (simp_all; omega) | (exfalso; simp_all [bne]; done) | trace_state)
end Go.Vc


/-
  Hulls of keys, locks of systems, false openings: plain lists.
-/
set_option linter.unusedVariables false
set_option linter.unusedSimpArgs false
set_option linter.unnecessarySimpa false
namespace Go.Vc
open Go.Proofs
set_option maxRecDepth 100000
/-- the depths of keys in a chamber -/
def hullAt (keys : List (List Int)) (i : Nat) (d : Nat) : Bool := keys.any fun k => k.getD i 0 == (d : Int)
def hullSet (m : MkM) (keys : List (List Int)) (i : Nat) : List Int := flt (hullAt keys i) m.depths.toNat
def hull (m : MkM) (keys : List (List Int)) (n : Nat) : List (List Int) := (List.range n).map (hullSet m keys)
theorem hull_succ (m : MkM) (keys : List (List Int)) (n : Nat) : hull m keys (n + 1) = hull m keys n ++ [hullSet m keys n] := by simp [hull, List.range_succ]
theorem hull_zero (m : MkM) (keys : List (List Int)) : hull m keys 0 = [] := rfl
theorem hull_len (m : MkM) (keys : List (List Int)) (n : Nat) : (hull m keys n).length = n := by simp [hull]
theorem hullSet_len (m : MkM) (keys : List (List Int)) (i : Nat) : (hullSet m keys i).length ≤ m.depths.toNat := flt_len _ _
theorem hull_sets (m : MkM) (keys : List (List Int)) (n : Nat) : ∀ x ∈ hull m keys n, x.length ≤ m.depths.toNat := fun x hx => by
  simp only [hull, List.mem_map] at hx
  obtain ⟨i, _, rfl⟩ := hx
  exact hullSet_len _ _ _
/- lists that rise strictly are known by their members -/
theorem strict_ext : ∀ {xs ys : List Int}, xs.Pairwise (· < ·) → ys.Pairwise (· < ·) → (∀ x, x ∈ xs ↔ x ∈ ys) → xs = ys
  | [], [], _, _, _ => rfl
  | [], y :: ys, _, _, h => absurd ((h y).2 (List.mem_cons_self ..)) (by simp)
  | x :: xs, [], _, _, h => absurd ((h x).1 (List.mem_cons_self ..)) (by simp)
  | x :: xs, y :: ys, h1, h2, h => by
    obtain ⟨g1, g2⟩ := List.pairwise_cons.1 h1
    obtain ⟨k1, k2⟩ := List.pairwise_cons.1 h2
    have e : x = y := by
      rcases List.mem_cons.1 ((h x).1 (List.mem_cons_self ..)) with e | e
      · exact e
      rcases List.mem_cons.1 ((h y).2 (List.mem_cons_self ..)) with e' | e'
      · exact e'.symm
      have := k1 x e
      have := g1 y e'
      omega
    subst e
    have hr : ∀ z, z ∈ xs ↔ z ∈ ys := fun z => ⟨fun hz => by
      rcases List.mem_cons.1 ((h z).1 (List.mem_cons_of_mem _ hz)) with e | e
      · have := g1 z hz; omega
      · exact e, fun hz => by
      rcases List.mem_cons.1 ((h z).2 (List.mem_cons_of_mem _ hz)) with e | e
      · have := k1 z hz; omega
      · exact e⟩
    rw [strict_ext g2 k2 hr]
theorem flt_pair (p : Nat → Bool) : ∀ n, (flt p n).Pairwise (· < ·)
  | 0 => by rw [flt_zero]; exact List.Pairwise.nil
  | n + 1 => by
    rw [flt_succ]
    split
    · refine List.pairwise_append.2 ⟨flt_pair p n, List.pairwise_singleton .., fun a ha b hb => ?_⟩
      obtain ⟨j, hj, rfl, _⟩ := flt_mem ha
      simp only [List.mem_singleton] at hb
      omega
    · exact flt_pair p n
theorem mem_flt_of {p : Nat → Bool} {n j : Nat} (hj : j < n) (hp : p j = true) : (j : Int) ∈ flt p n := by
  induction n with
  | zero => omega
  | succ n ih =>
    rw [flt_succ]
    by_cases e : j = n
    · subst e; rw [if_pos hp]; simp
    · have := ih (by omega)
      split
      · exact List.mem_append_left _ this
      · exact this
theorem rowsL_flt {xs : List Int} {p : Nat → Bool} {D : Nat} (h : ∀ x ∈ xs, ∃ j : Nat, j < D ∧ x = (j : Int)) (hp : ∀ j, j < D → (p j = true ↔ (j : Int) ∈ xs)) : rowsL xs = flt p D := by
  refine strict_ext (rowsL_pair xs) (flt_pair p D) fun x => ?_
  rw [rowsL_mem]
  constructor
  · intro hx
    obtain ⟨j, hj, rfl⟩ := h x hx
    exact mem_flt_of hj ((hp j hj).2 hx)
  · intro hx
    obtain ⟨j, hj, rfl, h2⟩ := flt_mem hx
    exact (hp j hj).1 h2
theorem hullSet_eq {m : MkM} {keys : List (List Int)} {i : Nat} (h : ∀ k ∈ keys, 0 ≤ k.getD i 0 ∧ k.getD i 0 < m.depths) : rowsL (keys.map fun k => k.getD i 0) = hullSet m keys i := by
  refine rowsL_flt (fun x hx => ?_) fun j _ => ?_
  · obtain ⟨k, hk, rfl⟩ := List.mem_map.1 hx
    have := h k hk
    exact ⟨(k.getD i 0).toNat, by omega, by omega⟩
  · simp only [hullAt, List.any_eq_true, List.mem_map, beq_iff_eq]
/- ---- systems -/
/-- the keys of the rows that open a door -/
def onTo (t cuts : List (List Int)) (k : Nat) : Nat → List (List Int)
  | 0 => []
  | i + 1 => if ((t.getD i []).getD k 0 == 1) = true then onTo t cuts k i ++ [cuts.getD i []] else onTo t cuts k i
theorem onTo_zero (t cuts : List (List Int)) (k : Nat) : onTo t cuts k 0 = [] := rfl
theorem onTo_succ (t cuts : List (List Int)) (k i : Nat) : onTo t cuts k (i + 1) = if ((t.getD i []).getD k 0 == 1) = true then onTo t cuts k i ++ [cuts.getD i []] else onTo t cuts k i := rfl
theorem onTo_len (t cuts : List (List Int)) (k : Nat) : ∀ i, (onTo t cuts k i).length ≤ i
  | 0 => Nat.le_refl _
  | i + 1 => by
    have := onTo_len t cuts k i
    rw [onTo_succ]; split
    · simp; omega
    · omega
theorem onTo_mem {t cuts : List (List Int)} {k : Nat} : ∀ {i : Nat}, i ≤ cuts.length → ∀ x ∈ onTo t cuts k i, x ∈ cuts
  | 0, _, x, hx => by cases hx
  | i + 1, hi, x, hx => by
    have ih := onTo_mem (t := t) (cuts := cuts) (k := k) (i := i) (by omega)
    rw [onTo_succ] at hx
    split at hx
    · rcases List.mem_append.1 hx with h | h
      · exact ih x h
      · simp only [List.mem_singleton] at h
        subst h
        rw [List.getD_eq_getElem?_getD, List.getElem?_eq_getElem (by omega)]
        exact List.getElem_mem _
    · exact ih x hx
def lockAt (m : MkM) (t cuts : List (List Int)) (k : Nat) : List (List Int) := hull m (onTo t cuts k cuts.length) m.chambers.toNat
theorem lockAt_len (m : MkM) (t cuts : List (List Int)) (k : Nat) : (lockAt m t cuts k).length = m.chambers.toNat := hull_len _ _ _
theorem lockAt_sets (m : MkM) (t cuts : List (List Int)) (k : Nat) : ∀ x ∈ lockAt m t cuts k, x.length ≤ m.depths.toNat := hull_sets _ _ _
def locksTo (m : MkM) (t cuts : List (List Int)) (n : Nat) : List (List (List Int)) := (List.range n).map (lockAt m t cuts)
theorem locksTo_zero (m : MkM) (t cuts : List (List Int)) : locksTo m t cuts 0 = [] := rfl
theorem locksTo_succ (m : MkM) (t cuts : List (List Int)) (n : Nat) : locksTo m t cuts (n + 1) = locksTo m t cuts n ++ [lockAt m t cuts n] := by simp [locksTo, List.range_succ]
theorem locksTo_len (m : MkM) (t cuts : List (List Int)) (n : Nat) : (locksTo m t cuts n).length = n := by simp [locksTo]
theorem locksTo_get (m : MkM) (t cuts : List (List Int)) {n k : Nat} (h : k < n) : (locksTo m t cuts n)[k]? = some (lockAt m t cuts k) := by simp [locksTo, h]
/-- does a key open a lock -/
def opensL (l : List (List Int)) (c : List Int) : Bool := (List.range c.length).all fun i => has (l.getD i []) (c.getD i 0)
/-- the false openings of a row -/
def fpTo (m : MkM) (t cuts : List (List Int)) (i : Nat) : Nat → List (List Int)
  | 0 => []
  | k + 1 => if (((t.getD i []).getD k 0 == 0) && opensL (lockAt m t cuts k) (cuts.getD i [])) = true then fpTo m t cuts i k ++ [[(i : Int), (k : Int)]] else fpTo m t cuts i k
theorem fpTo_zero (m : MkM) (t cuts : List (List Int)) (i : Nat) : fpTo m t cuts i 0 = [] := rfl
theorem fpTo_succ (m : MkM) (t cuts : List (List Int)) (i k : Nat) : fpTo m t cuts i (k + 1) = if (((t.getD i []).getD k 0 == 0) && opensL (lockAt m t cuts k) (cuts.getD i [])) = true then fpTo m t cuts i k ++ [[(i : Int), (k : Int)]] else fpTo m t cuts i k := rfl
theorem fpTo_len (m : MkM) (t cuts : List (List Int)) (i : Nat) : ∀ k, (fpTo m t cuts i k).length ≤ k
  | 0 => Nat.le_refl _
  | k + 1 => by
    have := fpTo_len m t cuts i k
    rw [fpTo_succ]; split
    · simp; omega
    · omega
def fprTo (m : MkM) (t cuts : List (List Int)) : Nat → List (List Int)
  | 0 => []
  | i + 1 => fprTo m t cuts i ++ fpTo m t cuts i (t.getD 0 []).length
theorem fprTo_zero (m : MkM) (t cuts : List (List Int)) : fprTo m t cuts 0 = [] := rfl
theorem fprTo_succ (m : MkM) (t cuts : List (List Int)) (i : Nat) : fprTo m t cuts (i + 1) = fprTo m t cuts i ++ fpTo m t cuts i (t.getD 0 []).length := rfl
theorem fprTo_len (m : MkM) (t cuts : List (List Int)) : ∀ i, (fprTo m t cuts i).length ≤ i * (t.getD 0 []).length
  | 0 => Nat.zero_le _
  | i + 1 => by
    have := fprTo_len m t cuts i
    have := fpTo_len m t cuts i (t.getD 0 []).length
    rw [fprTo_succ, List.length_append, Nat.succ_mul]; omega
def falses (m : MkM) (t cuts : List (List Int)) : List (List Int) := fprTo m t cuts cuts.length
def isCutsOf (m : MkM) (t cuts : List (List Int)) : Bool := (cuts.length == t.length) && cuts.all (key1 m)
def cutsC (m : MkM) (t cuts : List (List Int)) : Int := if isSy m t then (if isCutsOf m t cuts then 0 else 2) else 1
def isDes (m : MkM) (t cuts : List (List Int)) : Bool := isSy m t && isCutsOf m t cuts && (falses m t cuts).isEmpty
end Go.Vc


/-
  Stacks of pins, what they need: plain lists.
-/
set_option linter.unusedVariables false
set_option linter.unusedSimpArgs false
set_option linter.unnecessarySimpa false
namespace Go.Vc
open Go.Proofs
set_option maxRecDepth 100000
def inc1 (xs : List Int) (d : Int) : List Int := xs.set d.toNat (xs.getD d.toNat 0 + 1)
def stkTo (set : List Int) : Nat → List Int
  | 0 => [set.getD 0 0]
  | i + 1 => stkTo set i ++ [set.getD (i + 1) 0 - set.getD i 0]
theorem stkTo_zero (set : List Int) : stkTo set 0 = [set.getD 0 0] := rfl
theorem stkTo_succ (set : List Int) (i : Nat) : stkTo set (i + 1) = stkTo set i ++ [set.getD (i + 1) 0 - set.getD i 0] := rfl
theorem stkTo_len (set : List Int) : ∀ i, (stkTo set i).length = i + 1
  | 0 => rfl
  | i + 1 => by rw [stkTo_succ, List.length_append, stkTo_len set i]; rfl
def stk (m : MkM) (set : List Int) : List Int := stkTo set (set.length - 1) ++ [m.depths - 1 - set.getD (set.length - 1) 0]
theorem stk_len {m : MkM} {set : List Int} (h : 0 < set.length) : (stk m set).length = set.length + 1 := by
  rw [stk, List.length_append, stkTo_len]; simp; omega
theorem rises_get {xs : List Int} {n : Int} (h : rises xs n = true) {i : Nat} (hi : i < xs.length) : 0 ≤ xs.getD i 0 ∧ xs.getD i 0 < n ∧ (0 < i → xs.getD (i - 1) 0 < xs.getD i 0) := by
  unfold rises at h
  rw [List.all_eq_true] at h
  have := h i (List.mem_range.2 hi)
  simp only [riseAt, Bool.and_eq_true, Bool.or_eq_true, decide_eq_true_eq, beq_iff_eq] at this
  exact ⟨this.1.1, this.1.2, fun h0 => this.2.resolve_left (by omega)⟩
theorem stkTo_in {m : MkM} {set : List Int} (h : rises set m.depths = true) : ∀ i, i < set.length → ∀ x ∈ stkTo set i, 0 ≤ x ∧ x < m.depths
  | 0, hi, x, hx => by
    have := rises_get h hi
    simp only [stkTo_zero, List.mem_singleton] at hx
    subst hx; omega
  | i + 1, hi, x, hx => by
    rw [stkTo_succ] at hx
    rcases List.mem_append.1 hx with hx | hx
    · exact stkTo_in h i (by omega) x hx
    · simp only [List.mem_singleton] at hx
      subst hx
      have h1 := rises_get h hi
      have h2 := rises_get h (show i < set.length by omega)
      have := h1.2.2 (by omega)
      simp only [Nat.add_sub_cancel] at this
      omega
theorem stk_in {m : MkM} {set : List Int} (h : lockSet m set = true) : 0 < set.length ∧ ∀ x ∈ stk m set, 0 ≤ x ∧ x < m.depths := by
  simp only [lockSet, Bool.and_eq_true, decide_eq_true_eq] at h
  have h0 : 0 < set.length := by omega
  refine ⟨h0, fun x hx => ?_⟩
  rcases List.mem_append.1 hx with hx | hx
  · exact stkTo_in h.2 _ (by omega) x hx
  · simp only [List.mem_singleton] at hx
    have := rises_get h.2 (show set.length - 1 < set.length by omega)
    subst hx; omega
/-- counts for so many depths, each at most so great -/
def okS (D : Nat) (c : Int) (xs : List Int) : Prop := xs.length = D ∧ ∀ i, i < D → 0 ≤ xs.getD i 0 ∧ xs.getD i 0 ≤ c
theorem okS.mono {D : Nat} {c c' : Int} {xs : List Int} (h : okS D c xs) (hc : c ≤ c') : okS D c' xs := ⟨h.1, fun i hi => by have := h.2 i hi; omega⟩
theorem getD_set (xs : List Int) (i j : Nat) (x : Int) : (xs.set i x).getD j 0 = if i = j ∧ i < xs.length then x else xs.getD j 0 := by
  rw [List.getD_eq_getElem?_getD, List.getElem?_set]
  by_cases h : i = j
  · by_cases h2 : i < xs.length
    · rw [if_pos h, if_pos h2, if_pos ⟨h, h2⟩]; rfl
    · rw [if_pos h, if_neg h2, if_neg (fun h => h2 h.2), List.getD_eq_getElem?_getD, List.getElem?_eq_none (by omega)]
  · rw [if_neg h, if_neg (fun h2 => h h2.1), List.getD_eq_getElem?_getD]
theorem okS.inc {D : Nat} {c : Int} {xs : List Int} (h : okS D c xs) (d : Int) : okS D (c + 1) (inc1 xs d) := by
  refine ⟨by simp [inc1, h.1], fun i hi => ?_⟩
  have h1 := h.2 i hi
  unfold inc1
  rw [getD_set]
  split
  · rename_i h2; rw [h2.1]; omega
  · omega
theorem okS.zero (D : Nat) : okS D 0 (List.replicate D 0) := ⟨by simp, fun i hi => by simp [List.getD_eq_getElem?_getD, hi]⟩
def wTo (w s : List Int) : Nat → List Int
  | 0 => w
  | k + 1 => inc1 (wTo w s k) (s.getD (k + 1) 0)
theorem wTo_zero (w s : List Int) : wTo w s 0 = w := rfl
theorem wTo_succ (w s : List Int) (k : Nat) : wTo w s (k + 1) = inc1 (wTo w s k) (s.getD (k + 1) 0) := rfl
theorem wTo_ok {D : Nat} {c : Int} {w : List Int} (h : okS D c w) (s : List Int) : ∀ k : Nat, okS D (c + k) (wTo w s k)
  | 0 => h.mono (by simp)
  | k + 1 => ((wTo_ok h s k).inc _).mono (by omega)
structure St3 where
  b : List Int
  w : List Int
  d : List Int
def ok3 (D : Nat) (c : Int) (s : St3) : Prop := okS D c s.b ∧ okS D c s.w ∧ okS D c s.d
theorem ok3.mono {D : Nat} {c c' : Int} {s : St3} (h : ok3 D c s) (hc : c ≤ c') : ok3 D c' s := ⟨h.1.mono hc, h.2.1.mono hc, h.2.2.mono hc⟩
def st1 (z : St3) (s : List Int) : St3 := ⟨inc1 z.b (s.getD 0 0), wTo z.w s (s.length - 2), inc1 z.d (s.getD (s.length - 1) 0)⟩
theorem st1_ok {D : Nat} {c : Int} {z : St3} (h : ok3 D c z) (s : List Int) : ok3 D (c + 1 + s.length) (st1 z s) :=
  ⟨(h.1.inc _).mono (by omega), (wTo_ok h.2.1 s _).mono (by omega), (h.2.2.inc _).mono (by omega)⟩
def pins (m : MkM) (l : List (List Int)) : List (List Int) := l.map (stk m)
def stTo (ps : List (List Int)) (z : St3) : Nat → St3
  | 0 => z
  | c + 1 => st1 (stTo ps z c) (ps.getD c [])
theorem stTo_zero (ps : List (List Int)) (z : St3) : stTo ps z 0 = z := rfl
theorem stTo_succ (ps : List (List Int)) (z : St3) (c : Nat) : stTo ps z (c + 1) = st1 (stTo ps z c) (ps.getD c []) := rfl
theorem stTo_ok {D : Nat} {z : St3} (h : ok3 D 0 z) {ps : List (List Int)} (hp : ∀ p ∈ ps, p.length ≤ 1048577) : ∀ c : Nat, c ≤ ps.length → ok3 D ((c : Int) * 1048578) (stTo ps z c)
  | 0, _ => h.mono (by simp)
  | c + 1, hc => by
    have ih := stTo_ok h hp c (by omega)
    have hl : (ps.getD c []).length ≤ 1048577 := by
      rw [List.getD_eq_getElem?_getD, List.getElem?_eq_getElem (by omega)]
      exact hp _ (List.getElem_mem _)
    exact (st1_ok ih _).mono (by omega)
def zero3 (D : Nat) : St3 := ⟨List.replicate D 0, List.replicate D 0, List.replicate D 0⟩
theorem zero3_ok (D : Nat) : ok3 D 0 (zero3 D) := ⟨okS.zero D, okS.zero D, okS.zero D⟩
def stockL (m : MkM) (l : List (List Int)) : St3 := stTo (pins m l) (zero3 m.depths.toNat) l.length
theorem stockL_ok {m : MkM} {l : List (List Int)} (hl : isLk0 m l = true) (hm : isMk m = true) (h2 : ∀ x ∈ l, x.length ≤ 1048576) : ok3 m.depths.toNat 7000000 (stockL m l) := by
  have hn := isMk_num hm
  simp only [isLk0, Bool.and_eq_true, List.all_eq_true, beq_iff_eq] at hl
  have hp : ∀ p ∈ pins m l, p.length ≤ 1048577 := fun p hp => by
    obtain ⟨x, hx, rfl⟩ := List.mem_map.1 hp
    have h3 := stk_in (hl.2 x hx)
    rw [stk_len h3.1]
    have := h2 x hx
    omega
  exact (stTo_ok (zero3_ok _) hp l.length (by simp [pins])).mono (by omega)
/- what is added for copies -/
def addM (xs a : List Int) (c : Int) : Nat → List Int
  | 0 => xs
  | k + 1 => (addM xs a c k).set k (xs.getD k 0 + c * a.getD k 0)
theorem addM_zero (xs a : List Int) (c : Int) : addM xs a c 0 = xs := rfl
theorem addM_succ (xs a : List Int) (c : Int) (k : Nat) : addM xs a c (k + 1) = (addM xs a c k).set k (xs.getD k 0 + c * a.getD k 0) := rfl
theorem addM_len (xs a : List Int) (c : Int) : ∀ k, (addM xs a c k).length = xs.length
  | 0 => rfl
  | k + 1 => by rw [addM_succ, List.length_set, addM_len xs a c k]
theorem addM_get (xs a : List Int) (c : Int) : ∀ k j, (addM xs a c k).getD j 0 = if j < k ∧ j < xs.length then xs.getD j 0 + c * a.getD j 0 else xs.getD j 0
  | 0, j => by rw [addM_zero, if_neg (by omega)]
  | k + 1, j => by
    rw [addM_succ, getD_set, addM_len, addM_get xs a c k j]
    by_cases h : k = j
    · subst h
      by_cases h2 : k < xs.length
      · rw [if_pos ⟨rfl, h2⟩, if_pos ⟨by omega, h2⟩]
      · rw [if_neg (fun h => h2 h.2), if_neg (fun h => h2 h.2), if_neg (fun h => h2 h.2)]
    · rw [if_neg (fun h2 => h h2.1)]
      by_cases h2 : j < k ∧ j < xs.length
      · rw [if_pos h2, if_pos ⟨by omega, h2.2⟩]
      · rw [if_neg h2, if_neg (by omega)]
theorem addM_ok {D : Nat} {p q : Int} {xs a : List Int} {c : Int} (h : okS D p xs) (ha : okS D q a) (hc : 0 ≤ c ∧ c ≤ 50) (k : Nat) : okS D (p + 50 * q) (addM xs a c k) := by
  refine ⟨by rw [addM_len]; exact h.1, fun i hi => ?_⟩
  have h1 := h.2 i hi
  have h2 := ha.2 i hi
  have h3 : 0 ≤ c * a.getD i 0 := Int.mul_nonneg hc.1 h2.1
  have h4 : c * a.getD i 0 ≤ 50 * q := Int.le_trans (Int.mul_le_mul_of_nonneg_right hc.2 h2.1) (Int.mul_le_mul_of_nonneg_left h2.2 (by decide))
  rw [addM_get]
  split <;> omega
def add3 (z q : St3) (c : Int) (D : Nat) : St3 := ⟨addM z.b q.b c D, addM z.w q.w c D, addM z.d q.d c D⟩
def osStep (m : MkM) (t cuts : List (List Int)) (z : St3) (x : ItM) : St3 := if x.key = true then z else add3 z (stockL m (lockAt m t cuts x.index.toNat)) x.copies m.depths.toNat
def osTo (m : MkM) (t cuts : List (List Int)) (os : List ItM) : Nat → St3
  | 0 => zero3 m.depths.toNat
  | i + 1 => osStep m t cuts (osTo m t cuts os i) (os.getD i default)
theorem osTo_zero (m : MkM) (t cuts : List (List Int)) (os : List ItM) : osTo m t cuts os 0 = zero3 m.depths.toNat := rfl
theorem osTo_succ (m : MkM) (t cuts : List (List Int)) (os : List ItM) (i : Nat) : osTo m t cuts os (i + 1) = osStep m t cuts (osTo m t cuts os i) (os.getD i default) := rfl
end Go.Vc


/-
  Contracts: hulls, the locks of a system, false openings (the specification's).
-/
set_option linter.unusedVariables false
set_option linter.unusedSimpArgs false
set_option linter.unnecessarySimpa false
namespace Go.Vc
open Go.Proofs
set_option maxRecDepth 100000
set_option maxHeartbeats 4000000
abbrev eLks (ls : List (List (List Int))) : AV := .arr ⟨1, true⟩ (ls.map eLk)
theorem take_map_all {α β : Type} (f : α → β) (l : List α) (n : Nat) (h : l.length ≤ n) : (l.map f).take n = l.map f := List.take_of_length_le (by simpa using h)
theorem c_l04Hull (m : MkM) (keys : List (List Int)) (hm : isMk m = true) (h0 : keys.length ≤ 1048576) (hk3 : ∀ k ∈ keys, (k.length : Int) = m.chambers) :
    Fn Tryz.prog 74 [eMk m, eIss keys] false (· = eLk (hull m keys m.chambers.toNat)) := by
  have ⟨⟨n1, n2⟩, n3, n4⟩ := isMk_num hm
  refine Fn.of_vcS 54 [.cell 4 65] Tryz.func74 rfl rfl rfl rfl rfl (of_decide_eq_true rfl) ?_
  simp -dsimp -implicitDefEqProofs only [go_sem, ↓reduceIte, Nat.reduceEqDiff, Nat.reduceLT, Nat.reduceAdd, Nat.reduceMul, Nat.reduceLeDiff, Nat.le_refl, Int.natCast_zero, Int.toNat_natCast, Int.reduceToNat]
  refine Later.up [1, 2, 4] [18, 27, 46, 47, 50, 51] [11] m.chambers.toNat (fun _ => True) (fun i => [(6, eI i), (5, .ref 11 0 0 i)]) (fun i => [(11, .row 0 ⟨1, false⟩ (i == 0) ((hull m keys i).map eIs))]) trivial ?_ rfl (fun i hi _ => ?_) (fun _ => ?_)
  · simp -dsimp -implicitDefEqProofs only [go_sem, ↓reduceIte, Nat.reduceEqDiff, Nat.reduceLT, Nat.reduceAdd, Nat.reduceMul, Nat.reduceLeDiff, Nat.le_refl, Int.natCast_zero, Int.toNat_natCast, Int.reduceToNat, hull_zero]
  · have hlt : decide ((i : Int) < m.chambers) = true := decide_eq_true (by omega)
    have hhl := hull_len m keys i
    rw [hull_succ]
    unfold hullSet
    generalize hull m keys i = H at *
    simp -dsimp -implicitDefEqProofs only [pick_nil, pick_cons, look_nil, look_cons, dropB_nil, dropB_cons, inD_nil, inD_cons, inE_nil, inE_cons, or_t_l, or_f_l, Nat.reduceBEq, Nat.reduceDiv, Nat.reduceAdd, beq_self_eq_true, Bool.false_eq_true, Bool.or_false, ↓reduceIte, Nat.reduceEqDiff, List.cons_append, List.nil_append]
    simp -dsimp -implicitDefEqProofs only [go_sem, ↓reduceIte, Nat.reduceEqDiff, Nat.reduceLT, Nat.reduceAdd, Nat.reduceMul, Nat.reduceLeDiff, Nat.le_refl, Int.natCast_zero, Int.toNat_natCast, Int.reduceToNat, hlt]
    refine Later.up [1, 2, 4, 5, 6] [27, 46, 47] [18] m.depths.toNat (fun _ => True) (fun d => [(8, eI d), (7, .ref 18 0 0 (flt (hullAt keys i) d).length)]) (fun d => [(18, .row 0 ⟨1, false⟩ true ((flt (hullAt keys i) d).map eI))]) trivial ?_ rfl (fun d hd _ => ?_) (fun _ => ?_)
    · simp -dsimp -implicitDefEqProofs only [go_sem, ↓reduceIte, Nat.reduceEqDiff, Nat.reduceLT, Nat.reduceAdd, Nat.reduceMul, Nat.reduceLeDiff, Nat.le_refl, Int.natCast_zero, Int.toNat_natCast, Int.reduceToNat, flt_zero]
    · have hltd : decide ((d : Int) < m.depths) = true := decide_eq_true (by omega)
      have hfl := flt_len (hullAt keys i) d
      rw [flt_succ]
      have hany : hullAt keys i d = (keys.take keys.length).any fun x => x.getD i 0 == (d : Int) := by rw [List.take_length]; rfl
      rw [hany]
      clear hany
      generalize flt (hullAt keys i) d = F at *
      simp -dsimp -implicitDefEqProofs only [pick_nil, pick_cons, look_nil, look_cons, dropB_nil, dropB_cons, inD_nil, inD_cons, inE_nil, inE_cons, or_t_l, or_f_l, Nat.reduceBEq, Nat.reduceDiv, Nat.reduceAdd, beq_self_eq_true, Bool.false_eq_true, Bool.or_false, ↓reduceIte, Nat.reduceEqDiff, List.cons_append, List.nil_append]
      simp -dsimp -implicitDefEqProofs only [go_sem, ↓reduceIte, Nat.reduceEqDiff, Nat.reduceLT, Nat.reduceAdd, Nat.reduceMul, Nat.reduceLeDiff, Nat.le_refl, Int.natCast_zero, Int.toNat_natCast, Int.reduceToNat, hltd]
      refine Later.up [1, 2, 4, 5, 6, 7, 8] [27] [] keys.length (fun _ => True) (fun k => [(10, eI k), (9, eB ((keys.take k).any fun x => x.getD i 0 == (d : Int)))]) (fun _ => []) trivial ?_ rfl (fun k hk' _ => ?_) (fun _ => ?_)
      · simp -dsimp -implicitDefEqProofs only [go_sem, ↓reduceIte, Nat.reduceEqDiff, Nat.reduceLT, Nat.reduceAdd, Nat.reduceMul, Nat.reduceLeDiff, Nat.le_refl, Int.natCast_zero, Int.toNat_natCast, Int.reduceToNat]
        exact rfl
      · have hkl : i < keys[k].length := by have := hk3 _ (List.getElem_mem hk'); omega
        have gk := get_some hk'
        have gi := get_some hkl
        have hgd : keys[k].getD i 0 = keys[k][i] := by simp [List.getD_eq_getElem?_getD, hkl]
        rw [any_take _ _ _ hk', hgd]
        have lk := lt_len hk'
        generalize keys[k] = x at *
        generalize x[i] = z at *
        generalize ((keys.take k).any fun x => x.getD i 0 == (d : Int)) = b at *
        simp -dsimp -implicitDefEqProofs only [pick_nil, pick_cons, look_nil, look_cons, dropB_nil, dropB_cons, inD_nil, inD_cons, inE_nil, inE_cons, or_t_l, or_f_l, Nat.reduceBEq, Nat.reduceDiv, Nat.reduceAdd, beq_self_eq_true, Bool.false_eq_true, Bool.or_false, ↓reduceIte, Nat.reduceEqDiff, List.cons_append, List.nil_append]
        cases b <;> simp -dsimp -implicitDefEqProofs only [go_sem, ↓reduceIte, Nat.reduceEqDiff, Nat.reduceLT, Nat.reduceAdd, Nat.reduceMul, Nat.reduceLeDiff, Nat.le_refl, Int.natCast_zero, Int.toNat_natCast, Int.reduceToNat, lk, gk, gi]
        · exact ⟨⟨by omega, by omega⟩, ⟨by omega, by omega⟩, ⟨by omega, by omega⟩, rfl⟩
        · exact ⟨⟨by omega, by omega⟩, rfl⟩
      · generalize ((keys.take keys.length).any fun x => x.getD i 0 == (d : Int)) = b at *
        simp -dsimp -implicitDefEqProofs only [pick_nil, pick_cons, look_nil, look_cons, dropB_nil, dropB_cons, inD_nil, inD_cons, inE_nil, inE_cons, or_t_l, or_f_l, Nat.reduceBEq, Nat.reduceDiv, Nat.reduceAdd, beq_self_eq_true, Bool.false_eq_true, Bool.or_false, ↓reduceIte, Nat.reduceEqDiff, List.cons_append, List.nil_append]
        cases b <;> simp -dsimp -implicitDefEqProofs only [go_sem, ↓reduceIte, Nat.reduceEqDiff, Nat.reduceLT, Nat.reduceAdd, Nat.reduceMul, Nat.reduceLeDiff, Nat.le_refl, Int.natCast_zero, Int.toNat_natCast, Int.reduceToNat, nlt_len]
        · exact ⟨⟨by omega, by omega⟩, rfl⟩
        · exact ⟨by omega, ⟨by omega, by omega⟩, rfl, by simp⟩
    · have hltd : decide (((m.depths.toNat : Nat) : Int) < m.depths) = false := decide_eq_false (by omega)
      have hfl := flt_len (hullAt keys i) m.depths.toNat
      generalize flt (hullAt keys i) m.depths.toNat = F at *
      have htk : List.take F.length (List.map eI F) = List.map eI F := List.take_of_length_le (by simp)
      have htk2 : List.take i (List.map eIs H) = List.map eIs H := List.take_of_length_le (by simp; omega)
      have e2 : List.map eIs (H ++ [F]) = List.map eIs H ++ [eIs F] := by simp
      have e0 : (i + 1 == 0) = false := rfl
      simp -dsimp -implicitDefEqProofs only [pick_nil, pick_cons, look_nil, look_cons, dropB_nil, dropB_cons, inD_nil, inD_cons, inE_nil, inE_cons, or_t_l, or_f_l, Nat.reduceBEq, Nat.reduceDiv, Nat.reduceAdd, beq_self_eq_true, Bool.false_eq_true, Bool.or_false, ↓reduceIte, Nat.reduceEqDiff, List.cons_append, List.nil_append]
      simp -dsimp -implicitDefEqProofs only [go_sem, ↓reduceIte, Nat.reduceEqDiff, Nat.reduceLT, Nat.reduceAdd, Nat.reduceMul, Nat.reduceLeDiff, Nat.le_refl, Int.natCast_zero, Int.toNat_natCast, Int.reduceToNat, hltd]
      refine .inr ⟨by omega, by omega, (by cases i with | zero => exact .inr rfl | succ i => exact .inl rfl), ⟨by omega, by omega⟩, rfl, ?_⟩
      rw [e0, e2]
      simp -dsimp -implicitDefEqProofs only [go_sem, ↓reduceIte, Nat.reduceEqDiff, Nat.reduceLT, Nat.reduceAdd, Nat.reduceMul, Nat.reduceLeDiff, Nat.le_refl, Int.natCast_zero, Int.toNat_natCast, Int.reduceToNat, htk, htk2]
  · have hlt : decide (((m.chambers.toNat : Nat) : Int) < m.chambers) = false := decide_eq_false (by omega)
    have hhl := hull_len m keys m.chambers.toNat
    generalize hull m keys m.chambers.toNat = H at *
    have htk := take_map_all eIs H m.chambers.toNat (by omega)
    simp -dsimp -implicitDefEqProofs only [pick_nil, pick_cons, look_nil, look_cons, dropB_nil, dropB_cons, inD_nil, inD_cons, inE_nil, inE_cons, or_t_l, or_f_l, Nat.reduceBEq, Nat.reduceDiv, Nat.reduceAdd, beq_self_eq_true, Bool.false_eq_true, Bool.or_false, ↓reduceIte, Nat.reduceEqDiff, List.cons_append, List.nil_append]
    simp -dsimp -implicitDefEqProofs only [go_sem, ↓reduceIte, Nat.reduceEqDiff, Nat.reduceLT, Nat.reduceAdd, Nat.reduceMul, Nat.reduceLeDiff, Nat.le_refl, Int.natCast_zero, Int.toNat_natCast, Int.reduceToNat, hlt]
    ((repeat' (with_reducible refine And.intro ?_ ?_)); all_goals try (first | omega | (refine ⟨?_, ?_⟩ <;> omega) | (exact rfl)))
    all_goals rw [htk]
theorem c_l15Lock (m : MkM) (t cuts : List (List Int)) (k : Nat) (hm : isMk m = true) (h0 : cuts.length ≤ 1048576) (h1 : cuts.length ≤ t.length) (hk : ∀ i (hi : i < t.length), k < t[i].length) (hc : ∀ x ∈ cuts, (x.length : Int) = m.chambers) :
    Fn Tryz.prog 39 [eSy m t, eIss cuts, eI k] false (· = eLk (lockAt m t cuts k)) := by
  refine Fn.of_vcS 36 [.cell 6 65] Tryz.func39 rfl rfl rfl rfl rfl (of_decide_eq_true rfl) ?_
  simp -dsimp -implicitDefEqProofs only [go_sem, ↓reduceIte, Nat.reduceEqDiff, Nat.reduceLT, Nat.reduceAdd, Nat.reduceMul, Nat.reduceLeDiff, Nat.le_refl, Int.natCast_zero, Int.toNat_natCast, Int.reduceToNat]
  refine Later.up [1, 2, 3, 6] [12, 30, 31] [9] cuts.length (fun _ => True) (fun i => [(8, eI i), (7, .ref 9 0 0 (onTo t cuts k i).length)]) (fun i => [(9, .row 0 ⟨1, false⟩ (onTo t cuts k i).isEmpty ((onTo t cuts k i).map eIs))]) trivial ?_ rfl (fun i hi _ => ?_) (fun _ => ?_)
  · simp -dsimp -implicitDefEqProofs only [go_sem, ↓reduceIte, Nat.reduceEqDiff, Nat.reduceLT, Nat.reduceAdd, Nat.reduceMul, Nat.reduceLeDiff, Nat.le_refl, Int.natCast_zero, Int.toNat_natCast, Int.reduceToNat, onTo_zero, List.isEmpty_nil]
  · have hit : i < t.length := by omega
    have hki := hk i hit
    have gi := get_some hit
    have gk := get_some hki
    have gc := get_some hi
    have li := lt_len hi
    have hp : (t.getD i []).getD k 0 = t[i][k] := by simp [List.getD_eq_getElem?_getD, hit, hki]
    have hcd : cuts.getD i [] = cuts[i] := by simp [List.getD_eq_getElem?_getD, hi]
    have hon := onTo_len t cuts k i
    rw [onTo_succ, hp, hcd]
    generalize onTo t cuts k i = F at *
    generalize t[i][k] = z at *
    generalize cuts[i] = c at *
    have htk := take_map_all eIs F F.length (Nat.le_refl _)
    have e2 : List.map eIs (F ++ [c]) = List.map eIs F ++ [eIs c] := by simp
    have e0 : (F ++ [c]).isEmpty = false := by simp
    have e1 : (F ++ [c]).length = F.length + 1 := by simp
    simp -dsimp -implicitDefEqProofs only [pick_nil, pick_cons, look_nil, look_cons, dropB_nil, dropB_cons, inD_nil, inD_cons, inE_nil, inE_cons, or_t_l, or_f_l, Nat.reduceBEq, Nat.reduceDiv, Nat.reduceAdd, beq_self_eq_true, Bool.false_eq_true, Bool.or_false, ↓reduceIte, Nat.reduceEqDiff, List.cons_append, List.nil_append]
    rcases hz : (z == 1) with _ | _
    · simp -dsimp -implicitDefEqProofs only [go_sem, ↓reduceIte, Nat.reduceEqDiff, Nat.reduceLT, Nat.reduceAdd, Nat.reduceMul, Nat.reduceLeDiff, Nat.le_refl, Int.natCast_zero, Int.toNat_natCast, Int.reduceToNat, li, gi, gk, hz]
      ((repeat' (with_reducible refine And.intro ?_ ?_)); all_goals try (first | omega | (refine ⟨?_, ?_⟩ <;> omega) | (exact rfl)))
      all_goals trace_state
    · simp only [if_true]
      simp -dsimp -implicitDefEqProofs only [go_sem, ↓reduceIte, Nat.reduceEqDiff, Nat.reduceLT, Nat.reduceAdd, Nat.reduceMul, Nat.reduceLeDiff, Nat.le_refl, Int.natCast_zero, Int.toNat_natCast, Int.reduceToNat, li, gi, gk, gc, hz]
      ((repeat' (with_reducible refine And.intro ?_ ?_)); all_goals try (first | omega | (refine ⟨?_, ?_⟩ <;> omega) | (exact rfl)))
      refine .inr ⟨by omega, (by cases F with | nil => exact .inr rfl | cons => exact .inl rfl), ⟨by omega, by omega⟩, ?_⟩
      rw [e0, e2]
      simp -dsimp -implicitDefEqProofs only [go_sem, ↓reduceIte, Nat.reduceEqDiff, Nat.reduceLT, Nat.reduceAdd, Nat.reduceMul, Nat.reduceLeDiff, Nat.le_refl, Int.natCast_zero, Int.toNat_natCast, Int.reduceToNat, htk]
      exact rfl
  · have hon := onTo_len t cuts k cuts.length
    have hmm : ∀ x ∈ onTo t cuts k cuts.length, (x.length : Int) = m.chambers := fun x hx => hc x (onTo_mem (Nat.le_refl _) x hx)
    have hq := c_l04Hull m (onTo t cuts k cuts.length) hm (by omega) hmm
    unfold lockAt
    generalize onTo t cuts k cuts.length = F at *
    have htk := take_map_all eIs F F.length (Nat.le_refl _)
    simp -dsimp -implicitDefEqProofs only [pick_nil, pick_cons, look_nil, look_cons, dropB_nil, dropB_cons, inD_nil, inD_cons, inE_nil, inE_cons, or_t_l, or_f_l, Nat.reduceBEq, Nat.reduceDiv, Nat.reduceAdd, beq_self_eq_true, Bool.false_eq_true, Bool.or_false, ↓reduceIte, Nat.reduceEqDiff, List.cons_append, List.nil_append]
    simp -dsimp -implicitDefEqProofs only [go_sem, ↓reduceIte, Nat.reduceEqDiff, Nat.reduceLT, Nat.reduceAdd, Nat.reduceMul, Nat.reduceLeDiff, Nat.le_refl, Int.natCast_zero, Int.toNat_natCast, Int.reduceToNat, nlt_len]
    refine sCallT_frz 9 0 ⟨1, false⟩ F.isEmpty (List.map eIs F) hq (by decide) ?_ ?_ fun r hr => ?_
    · simp -dsimp -implicitDefEqProofs only [go_sem, ↓reduceIte, Nat.reduceEqDiff, Nat.reduceLT, Nat.reduceAdd, Nat.reduceMul, Nat.reduceLeDiff, Nat.le_refl, Int.natCast_zero, Int.toNat_natCast, Int.reduceToNat]
    · refine frzOk_no ?_ rfl ?_
      · simp -dsimp -implicitDefEqProofs only [go_sem, ↓reduceIte, Nat.reduceEqDiff, Nat.reduceLT, Nat.reduceAdd, Nat.reduceMul, Nat.reduceLeDiff, Nat.le_refl, Int.natCast_zero, Int.toNat_natCast, Int.reduceToNat]
      · have h := frzOk_ref (l := 9) (v := 0) (sh := ⟨1, false⟩) (ys := List.map eIs F) (xs := []) (r := []) 0 F.length (by simp) trivial
        rw [List.drop_zero, htk] at h
        exact h
    · subst hr
      simp -dsimp -implicitDefEqProofs only [go_sem, ↓reduceIte, Nat.reduceEqDiff, Nat.reduceLT, Nat.reduceAdd, Nat.reduceMul, Nat.reduceLeDiff, Nat.le_refl, Int.natCast_zero, Int.toNat_natCast, Int.reduceToNat]
      all_goals first | exact rfl | trace_state
theorem c_l15Locks (m : MkM) (t cuts : List (List Int)) (hm : isMk m = true) (h0 : cuts.length ≤ 1048576) (h1 : cuts.length ≤ t.length) (h2 : 0 < t.length) (hk : ∀ i (hi : i < t.length), t[i].length = (t.getD 0 []).length) (hd : (t.getD 0 []).length ≤ 1048576) (hc : ∀ x ∈ cuts, (x.length : Int) = m.chambers) :
    Fn Tryz.prog 137 [eSy m t, eIss cuts] false (· = eLks (locksTo m t cuts (t.getD 0 []).length)) := by
  refine Fn.of_vcS 25 [.tmp 4] Tryz.func137 rfl rfl rfl rfl rfl (of_decide_eq_true rfl) ?_
  have g0 := get_some h2
  have hg : t.getD 0 [] = t[0] := by simp [List.getD_eq_getElem?_getD, h2]
  rw [hg] at hk hd ⊢
  simp -dsimp -implicitDefEqProofs only [go_sem, ↓reduceIte, Nat.reduceEqDiff, Nat.reduceLT, Nat.reduceAdd, Nat.reduceMul, Nat.reduceLeDiff, Nat.le_refl, Int.natCast_zero, Int.toNat_natCast, Int.reduceToNat]
  refine Later.up [1, 2] [13, 21, 22, 23] [7] t[0].length (fun _ => True) (fun i => [(6, eI i), (5, .ref 7 0 0 i)]) (fun i => [(7, .row 0 ⟨1, true⟩ (i == 0) ((locksTo m t cuts i).map eLk))]) trivial ?_ rfl (fun i hi _ => ?_) (fun _ => ?_)
  · simp -dsimp -implicitDefEqProofs only [go_sem, ↓reduceIte, Nat.reduceEqDiff, Nat.reduceLT, Nat.reduceAdd, Nat.reduceMul, Nat.reduceLeDiff, Nat.le_refl, Int.natCast_zero, Int.toNat_natCast, Int.reduceToNat, locksTo_zero]
  · have hq := c_l15Lock m t cuts i hm h0 h1 (fun j hj => by rw [hk j hj]; exact hi) hc
    have hll := locksTo_len m t cuts i
    have li := lt_len hi
    rw [locksTo_succ]
    generalize locksTo m t cuts i = F at *
    generalize lockAt m t cuts i = L at *
    have htk := take_map_all eLk F i (by omega)
    have e0 : (i + 1 == 0) = false := rfl
    have e2 : List.map eLk (F ++ [L]) = List.map eLk F ++ [eLk L] := by simp
    simp -dsimp -implicitDefEqProofs only [pick_nil, pick_cons, look_nil, look_cons, dropB_nil, dropB_cons, inD_nil, inD_cons, inE_nil, inE_cons, or_t_l, or_f_l, Nat.reduceBEq, Nat.reduceDiv, Nat.reduceAdd, beq_self_eq_true, Bool.false_eq_true, Bool.or_false, ↓reduceIte, Nat.reduceEqDiff, List.cons_append, List.nil_append]
    simp -dsimp -implicitDefEqProofs only [go_sem, ↓reduceIte, Nat.reduceEqDiff, Nat.reduceLT, Nat.reduceAdd, Nat.reduceMul, Nat.reduceLeDiff, Nat.le_refl, Int.natCast_zero, Int.toNat_natCast, Int.reduceToNat, g0, li]
    refine ⟨by omega, ?_⟩
    (refine sCallS_one (hq) (by simp [noLabs, labs, labsL, isClo]) ?_)
    simp -dsimp -implicitDefEqProofs only [go_sem, ↓reduceIte, Nat.reduceEqDiff, Nat.reduceLT, Nat.reduceAdd, Nat.reduceMul, Nat.reduceLeDiff, Nat.le_refl, Int.natCast_zero, Int.toNat_natCast, Int.reduceToNat]
    refine .inr ⟨by omega, by omega, (by cases i with | zero => exact .inr rfl | succ i => exact .inl rfl), ⟨by omega, by omega⟩, rfl, ?_⟩
    rw [e0, e2]
    simp -dsimp -implicitDefEqProofs only [go_sem, ↓reduceIte, Nat.reduceEqDiff, Nat.reduceLT, Nat.reduceAdd, Nat.reduceMul, Nat.reduceLeDiff, Nat.le_refl, Int.natCast_zero, Int.toNat_natCast, Int.reduceToNat, htk]
  · have hll := locksTo_len m t cuts t[0].length
    generalize locksTo m t cuts t[0].length = F at *
    have htk := take_map_all eLk F t[0].length (by omega)
    simp -dsimp -implicitDefEqProofs only [pick_nil, pick_cons, look_nil, look_cons, dropB_nil, dropB_cons, inD_nil, inD_cons, inE_nil, inE_cons, or_t_l, or_f_l, Nat.reduceBEq, Nat.reduceDiv, Nat.reduceAdd, beq_self_eq_true, Bool.false_eq_true, Bool.or_false, ↓reduceIte, Nat.reduceEqDiff, List.cons_append, List.nil_append]
    simp -dsimp -implicitDefEqProofs only [go_sem, ↓reduceIte, Nat.reduceEqDiff, Nat.reduceLT, Nat.reduceAdd, Nat.reduceMul, Nat.reduceLeDiff, Nat.le_refl, Int.natCast_zero, Int.toNat_natCast, Int.reduceToNat, g0, nlt_len]
    ((repeat' (with_reducible refine And.intro ?_ ?_)); all_goals try (first | omega | (refine ⟨?_, ?_⟩ <;> omega) | (exact rfl)))
    all_goals rw [htk]
theorem c_l04Opens (l : List (List Int)) (c : List Int) (h0 : c.length ≤ l.length) (h1 : l.length ≤ 1048576) (h2 : ∀ x ∈ l, x.length ≤ 1048576) : Fn Tryz.prog 138 [eLk l, eIs c] true (· = eB (opensL l c)) := by
  refine Fn.of_vcN 23 [.tmp 4] Tryz.func138 rfl rfl rfl rfl rfl (of_decide_eq_true rfl) ?_
  simp -dsimp -implicitDefEqProofs only [go_sem, ↓reduceIte, Nat.reduceEqDiff, Nat.reduceLT, Nat.reduceAdd, Nat.reduceMul, Nat.reduceLeDiff, Nat.le_refl, Int.natCast_zero, Int.toNat_natCast, Int.reduceToNat]
  refine Later.up [1, 2] [8, 21] [] c.length (fun i => ((List.range i).all fun i => has (l.getD i []) (c.getD i 0)) = true) (fun i => [(5, eI i)]) (fun _ => []) rfl ?_ rfl (fun i hi hI => ?_) (fun hI => ?_)
  · simp -dsimp -implicitDefEqProofs only [go_sem, ↓reduceIte, Nat.reduceEqDiff, Nat.reduceLT, Nat.reduceAdd, Nat.reduceMul, Nat.reduceLeDiff, Nat.le_refl, Int.natCast_zero, Int.toNat_natCast, Int.reduceToNat]
  · have gi := get_some (show i < l.length by omega)
    have gc := get_some hi
    have li := lt_len hi
    have hp : has (l.getD i []) (c.getD i 0) = has l[i] c[i] := by simp [List.getD_eq_getElem?_getD, hi, show i < l.length by omega]
    have hq := c_l01Has l[i] c[i] (h2 _ (List.getElem_mem _))
    have no : has l[i] c[i] = false → opensL l c = false := fun h => range_all_no hi (by rw [hp]; exact h)
    have yes : has l[i] c[i] = true → ((List.range (i + 1)).all fun i => has (l.getD i []) (c.getD i 0)) = true := fun h => by rw [range_all_succ, hI, hp, h]; rfl
    clear hp hI
    generalize l[i] = x at *
    generalize c[i] = z at *
    simp -dsimp -implicitDefEqProofs only [pick_nil, pick_cons, look_nil, look_cons, dropB_nil, dropB_cons, inD_nil, inD_cons, inE_nil, inE_cons, or_t_l, or_f_l, Nat.reduceBEq, Nat.reduceDiv, Nat.reduceAdd, beq_self_eq_true, Bool.false_eq_true, Bool.or_false, ↓reduceIte, Nat.reduceEqDiff, List.cons_append, List.nil_append]
    simp -dsimp -implicitDefEqProofs only [go_sem, ↓reduceIte, Nat.reduceEqDiff, Nat.reduceLT, Nat.reduceAdd, Nat.reduceMul, Nat.reduceLeDiff, Nat.le_refl, Int.natCast_zero, Int.toNat_natCast, Int.reduceToNat, gi, gc, li]
    ((repeat' (with_reducible refine And.intro ?_ ?_)); all_goals try (first | omega | (refine ⟨?_, ?_⟩ <;> omega) | (exact rfl)))
    refine Later.draw mixed rfl ?_
    simp -dsimp -implicitDefEqProofs only [go_sem, ↓reduceIte, Nat.reduceEqDiff, Nat.reduceLT, Nat.reduceAdd, Nat.reduceMul, Nat.reduceLeDiff, Nat.le_refl, Int.natCast_zero, Int.toNat_natCast, Int.reduceToNat, gi, gc, li]
    ((repeat' (with_reducible refine And.intro ?_ ?_)); all_goals try (first | omega | (refine ⟨?_, ?_⟩ <;> omega) | (exact rfl)))
    refine sCallX_one hq ?_
    simp -dsimp -implicitDefEqProofs only [go_sem, ↓reduceIte, Nat.reduceEqDiff, Nat.reduceLT, Nat.reduceAdd, Nat.reduceMul, Nat.reduceLeDiff, Nat.le_refl, Int.natCast_zero, Int.toNat_natCast, Int.reduceToNat]
    refine ⟨by exact rfl, ?_⟩
    rcases hb : has x z with _ | _
    · rw [no hb]
      simp -dsimp -implicitDefEqProofs only [go_sem, ↓reduceIte, Nat.reduceEqDiff, Nat.reduceLT, Nat.reduceAdd, Nat.reduceMul, Nat.reduceLeDiff, Nat.le_refl, Int.natCast_zero, Int.toNat_natCast, Int.reduceToNat]
    · simp -dsimp -implicitDefEqProofs only [go_sem, ↓reduceIte, Nat.reduceEqDiff, Nat.reduceLT, Nat.reduceAdd, Nat.reduceMul, Nat.reduceLeDiff, Nat.le_refl, Int.natCast_zero, Int.toNat_natCast, Int.reduceToNat]
      refine ⟨⟨by omega, by omega⟩, ?_, rfl⟩
      rw [← List.range_succ]
      exact yes hb
  · simp -dsimp -implicitDefEqProofs only [pick_nil, pick_cons, look_nil, look_cons, dropB_nil, dropB_cons, inD_nil, inD_cons, inE_nil, inE_cons, or_t_l, or_f_l, Nat.reduceBEq, Nat.reduceDiv, Nat.reduceAdd, beq_self_eq_true, Bool.false_eq_true, Bool.or_false, ↓reduceIte, Nat.reduceEqDiff, List.cons_append, List.nil_append]
    simp -dsimp -implicitDefEqProofs only [go_sem, ↓reduceIte, Nat.reduceEqDiff, Nat.reduceLT, Nat.reduceAdd, Nat.reduceMul, Nat.reduceLeDiff, Nat.le_refl, Int.natCast_zero, Int.toNat_natCast, Int.reduceToNat, nlt_len]
    rw [show opensL l c = true from hI]
theorem c_l15False (m : MkM) (t cuts : List (List Int)) (hm : isMk m = true) (h0 : cuts.length ≤ 1000) (h1 : cuts.length ≤ t.length) (h2 : 0 < t.length) (hk : ∀ i (hi : i < t.length), t[i].length = (t.getD 0 []).length) (hd : (t.getD 0 []).length ≤ 1000) (hc : ∀ x ∈ cuts, (x.length : Int) = m.chambers) :
    Fn Tryz.prog 116 [eSy m t, eIss cuts] false (· = eIss (falses m t cuts)) := by
  have ⟨⟨n1, n2⟩, n3, n4⟩ := isMk_num hm
  refine Fn.of_vcS 52 [.tmp 4] Tryz.func116 rfl rfl rfl rfl rfl (of_decide_eq_true rfl) ?_
  have hq := c_l15Locks m t cuts hm (by omega) h1 h2 hk (by omega) hc
  simp -dsimp -implicitDefEqProofs only [go_sem, ↓reduceIte, Nat.reduceEqDiff, Nat.reduceLT, Nat.reduceAdd, Nat.reduceMul, Nat.reduceLeDiff, Nat.le_refl, Int.natCast_zero, Int.toNat_natCast, Int.reduceToNat]
  (refine sCallS_one (hq) (by simp [noLabs, labs, labsL, isClo]) ?_)
  clear hq
  simp -dsimp -implicitDefEqProofs only [go_sem, ↓reduceIte, Nat.reduceEqDiff, Nat.reduceLT, Nat.reduceAdd, Nat.reduceMul, Nat.reduceLeDiff, Nat.le_refl, Int.natCast_zero, Int.toNat_natCast, Int.reduceToNat]
  have hll := locksTo_len m t cuts (t.getD 0 []).length
  refine Later.up [1, 2, 5] [15, 21, 43, 48, 49, 50] [12] cuts.length (fun _ => True) (fun i => [(7, eI i), (6, .ref 12 0 0 (fprTo m t cuts i).length)]) (fun i => [(12, .row 0 ⟨1, false⟩ (fprTo m t cuts i).isEmpty ((fprTo m t cuts i).map eIs))]) trivial ?_ rfl (fun i hi _ => ?_) (fun _ => ?_)
  · simp -dsimp -implicitDefEqProofs only [go_sem, ↓reduceIte, Nat.reduceEqDiff, Nat.reduceLT, Nat.reduceAdd, Nat.reduceMul, Nat.reduceLeDiff, Nat.le_refl, Int.natCast_zero, Int.toNat_natCast, Int.reduceToNat, fprTo_zero, List.isEmpty_nil]
  · have hfl := fprTo_len m t cuts i
    have li := lt_len hi
    have hmul : i * (t.getD 0 []).length ≤ 1000 * 1000 := Nat.mul_le_mul (by omega) hd
    rw [fprTo_succ]
    generalize fprTo m t cuts i = H at *
    simp -dsimp -implicitDefEqProofs only [pick_nil, pick_cons, look_nil, look_cons, dropB_nil, dropB_cons, inD_nil, inD_cons, inE_nil, inE_cons, or_t_l, or_f_l, Nat.reduceBEq, Nat.reduceDiv, Nat.reduceAdd, beq_self_eq_true, Bool.false_eq_true, Bool.or_false, ↓reduceIte, Nat.reduceEqDiff, List.cons_append, List.nil_append]
    simp -dsimp -implicitDefEqProofs only [go_sem, ↓reduceIte, Nat.reduceEqDiff, Nat.reduceLT, Nat.reduceAdd, Nat.reduceMul, Nat.reduceLeDiff, Nat.le_refl, Int.natCast_zero, Int.toNat_natCast, Int.reduceToNat, li]
    refine Later.up [1, 2, 5, 7] [21, 43, 48, 49, 50] [12] (t.getD 0 []).length (fun _ => True) (fun k => [(8, eI k), (6, .ref 12 0 0 (H ++ fpTo m t cuts i k).length)]) (fun k => [(12, .row 0 ⟨1, false⟩ (H ++ fpTo m t cuts i k).isEmpty ((H ++ fpTo m t cuts i k).map eIs))]) trivial ?_ rfl (fun k hk' _ => ?_) (fun _ => ?_)
    · simp -dsimp -implicitDefEqProofs only [go_sem, ↓reduceIte, Nat.reduceEqDiff, Nat.reduceLT, Nat.reduceAdd, Nat.reduceMul, Nat.reduceLeDiff, Nat.le_refl, Int.natCast_zero, Int.toNat_natCast, Int.reduceToNat, fpTo_zero, List.append_nil]
    · have hit : i < t.length := by omega
      have hki : k < t[i].length := by rw [hk i hit]; exact hk'
      have gi := get_some hit
      have gk := get_some hki
      have gc := get_some hi
      have gl := locksTo_get m t cuts hk'
      have hp : (t.getD i []).getD k 0 = t[i][k] := by simp [List.getD_eq_getElem?_getD, hit, hki]
      have hcd : cuts.getD i [] = cuts[i] := by simp [List.getD_eq_getElem?_getD, hi]
      have hfk := fpTo_len m t cuts i k
      have hL := lockAt_len m t cuts k
      have hcl := hc _ (List.getElem_mem hi)
      have hop := c_l04Opens (lockAt m t cuts k) cuts[i] (by omega) (by omega) (fun x hx => by have := lockAt_sets m t cuts k x hx; omega)
      rw [fpTo_succ, hp, hcd]
      generalize fpTo m t cuts i k = F at *
      generalize lockAt m t cuts k = L at *
      generalize locksTo m t cuts (t.getD 0 []).length = LS at *
      have lk : decide ((k : Int) < (LS.length : Int)) = true := decide_eq_true (by omega)
      generalize t[i][k] = z at *
      generalize cuts[i] = c at *
      generalize hopb : opensL L c = ob at *
      have hG : (H ++ F).length ≤ 1001000 := by rw [List.length_append]; omega
      have e9 : ∀ x : List Int, H ++ (F ++ [x]) = (H ++ F) ++ [x] := fun x => by simp
      simp only [e9, apply_ite (fun l => H ++ l)]
      generalize H ++ F = G at *
      have htk := take_map_all eIs G G.length (Nat.le_refl _)
      have e0 : (G ++ [[(i : Int), (k : Int)]]).isEmpty = false := by simp
      have e1 : (G ++ [[(i : Int), (k : Int)]]).length = G.length + 1 := by simp
      have e2 : List.map eIs (G ++ [[(i : Int), (k : Int)]]) = List.map eIs G ++ [eIs [(i : Int), (k : Int)]] := by simp
      simp -dsimp -implicitDefEqProofs only [pick_nil, pick_cons, look_nil, look_cons, dropB_nil, dropB_cons, inD_nil, inD_cons, inE_nil, inE_cons, or_t_l, or_f_l, Nat.reduceBEq, Nat.reduceDiv, Nat.reduceAdd, beq_self_eq_true, Bool.false_eq_true, Bool.or_false, ↓reduceIte, Nat.reduceEqDiff, List.cons_append, List.nil_append]
      rcases hz : (z == 0) with _ | _
      · simp -dsimp -implicitDefEqProofs only [go_sem, ↓reduceIte, Nat.reduceEqDiff, Nat.reduceLT, Nat.reduceAdd, Nat.reduceMul, Nat.reduceLeDiff, Nat.le_refl, Int.natCast_zero, Int.toNat_natCast, Int.reduceToNat, gi, gk, li, lk, hz]
        refine Later.draw mixed rfl ?_
        simp -dsimp -implicitDefEqProofs only [go_sem, ↓reduceIte, Nat.reduceEqDiff, Nat.reduceLT, Nat.reduceAdd, Nat.reduceMul, Nat.reduceLeDiff, Nat.le_refl, Int.natCast_zero, Int.toNat_natCast, Int.reduceToNat, gi, gk, li, lk, hz]
        ((repeat' (with_reducible refine And.intro ?_ ?_)); all_goals try (first | omega | (refine ⟨?_, ?_⟩ <;> omega) | (exact rfl)))
        all_goals trace_state
      · simp -dsimp -implicitDefEqProofs only [go_sem, ↓reduceIte, Nat.reduceEqDiff, Nat.reduceLT, Nat.reduceAdd, Nat.reduceMul, Nat.reduceLeDiff, Nat.le_refl, Int.natCast_zero, Int.toNat_natCast, Int.reduceToNat, gi, gk, gc, gl, li, lk, hz]
        refine Later.draw mixed rfl ?_
        simp -dsimp -implicitDefEqProofs only [go_sem, ↓reduceIte, Nat.reduceEqDiff, Nat.reduceLT, Nat.reduceAdd, Nat.reduceMul, Nat.reduceLeDiff, Nat.le_refl, Int.natCast_zero, Int.toNat_natCast, Int.reduceToNat, gi, gk, gc, gl, li, lk, hz]
        ((repeat' (with_reducible refine And.intro ?_ ?_)); all_goals try (first | omega | (refine ⟨?_, ?_⟩ <;> omega) | (exact rfl)))
        refine sCallX_one hop ?_
        cases ob with
        | false =>
          simp -dsimp -implicitDefEqProofs only [go_sem, ↓reduceIte, Nat.reduceEqDiff, Nat.reduceLT, Nat.reduceAdd, Nat.reduceMul, Nat.reduceLeDiff, Nat.le_refl, Int.natCast_zero, Int.toNat_natCast, Int.reduceToNat]
          ((repeat' (with_reducible refine And.intro ?_ ?_)); all_goals try (first | omega | (refine ⟨?_, ?_⟩ <;> omega) | (exact rfl)))
          all_goals trace_state
        | true =>
          simp -dsimp -implicitDefEqProofs only [go_sem, ↓reduceIte, Nat.reduceEqDiff, Nat.reduceLT, Nat.reduceAdd, Nat.reduceMul, Nat.reduceLeDiff, Nat.le_refl, Int.natCast_zero, Int.toNat_natCast, Int.reduceToNat]
          refine ⟨by exact rfl, ?_⟩
          refine .inr ⟨by omega, (by cases G with | nil => exact .inr rfl | cons => exact .inl rfl), ⟨by omega, by omega⟩, rfl, ?_⟩
          rw [e0, e2]
          simp -dsimp -implicitDefEqProofs only [go_sem, ↓reduceIte, Nat.reduceEqDiff, Nat.reduceLT, Nat.reduceAdd, Nat.reduceMul, Nat.reduceLeDiff, Nat.le_refl, Int.natCast_zero, Int.toNat_natCast, Int.reduceToNat, htk]
          all_goals first | exact rfl | trace_state
    · simp -dsimp -implicitDefEqProofs only [pick_nil, pick_cons, look_nil, look_cons, dropB_nil, dropB_cons, inD_nil, inD_cons, inE_nil, inE_cons, or_t_l, or_f_l, Nat.reduceBEq, Nat.reduceDiv, Nat.reduceAdd, beq_self_eq_true, Bool.false_eq_true, Bool.or_false, ↓reduceIte, Nat.reduceEqDiff, List.cons_append, List.nil_append]
      simp -dsimp -implicitDefEqProofs only [go_sem, ↓reduceIte, Nat.reduceEqDiff, Nat.reduceLT, Nat.reduceAdd, Nat.reduceMul, Nat.reduceLeDiff, Nat.le_refl, Int.natCast_zero, Int.toNat_natCast, Int.reduceToNat, hll, nlt_len]
      ((repeat' (with_reducible refine And.intro ?_ ?_)); all_goals try (first | omega | (refine ⟨?_, ?_⟩ <;> omega) | (exact rfl)))
      all_goals trace_state
  · have hfl := fprTo_len m t cuts cuts.length
    unfold falses
    generalize fprTo m t cuts cuts.length = F at *
    have htk := take_map_all eIs F F.length (Nat.le_refl _)
    simp -dsimp -implicitDefEqProofs only [pick_nil, pick_cons, look_nil, look_cons, dropB_nil, dropB_cons, inD_nil, inD_cons, inE_nil, inE_cons, or_t_l, or_f_l, Nat.reduceBEq, Nat.reduceDiv, Nat.reduceAdd, beq_self_eq_true, Bool.false_eq_true, Bool.or_false, ↓reduceIte, Nat.reduceEqDiff, List.cons_append, List.nil_append]
    simp -dsimp -implicitDefEqProofs only [go_sem, ↓reduceIte, Nat.reduceEqDiff, Nat.reduceLT, Nat.reduceAdd, Nat.reduceMul, Nat.reduceLeDiff, Nat.le_refl, Int.natCast_zero, Int.toNat_natCast, Int.reduceToNat, nlt_len]
    ((repeat' (with_reducible refine And.intro ?_ ?_)); all_goals try (first | omega | (refine ⟨?_, ?_⟩ <;> omega) | (exact rfl)))
    all_goals rw [htk]
end Go.Vc


/-
  Contracts: stacks, pins, the stock of a lock.
-/
set_option linter.unusedVariables false
set_option linter.unusedSimpArgs false
set_option linter.unnecessarySimpa false
namespace Go.Vc
open Go.Proofs
set_option maxRecDepth 100000
set_option maxHeartbeats 4000000
theorem c_l05Stack (m : MkM) (set : List Int) (hm : isMk m = true) (hs : lockSet m set = true) (h : set.length ≤ 1048576) : Fn Tryz.prog 95 [eMk m, eIs set] true (· = eIs (stk m set)) := by
  refine Fn.of_vcN 43 [.tmp 4] Tryz.func95 rfl rfl rfl rfl rfl (of_decide_eq_true rfl) ?_
  have ⟨⟨n1, n2⟩, n3, n4⟩ := isMk_num hm
  obtain ⟨h0, hin⟩ := stk_in hs
  have hr : rises set m.depths = true := by simp only [lockSet, Bool.and_eq_true] at hs; exact hs.2
  have g0 := get_some h0
  have hg0 : set.getD 0 0 = set[0] := by simp [List.getD_eq_getElem?_getD, h0]
  simp -dsimp -implicitDefEqProofs only [go_sem, ↓reduceIte, Nat.reduceEqDiff, Nat.reduceLT, Nat.reduceAdd, Nat.reduceMul, Nat.reduceLeDiff, Nat.le_refl, Int.natCast_zero, Int.toNat_natCast, Int.reduceToNat, g0]
  refine ⟨by omega, ?_⟩
  refine Later.up [1, 2] [13, 28, 29] [10] (set.length - 1) (fun _ => True) (fun j => [(6, eI (1 + (j : Int))), (5, .ref 10 0 0 (stkTo set j).length)]) (fun j => [(10, .row 0 ⟨1, false⟩ true ((stkTo set j).map eI))]) trivial ?_ rfl (fun j hj _ => ?_) (fun _ => ?_)
  · simp -dsimp -implicitDefEqProofs only [go_sem, ↓reduceIte, Nat.reduceEqDiff, Nat.reduceLT, Nat.reduceAdd, Nat.reduceMul, Nat.reduceLeDiff, Nat.le_refl, Int.natCast_zero, Int.toNat_natCast, Int.reduceToNat, stkTo_zero, hg0]
    ((repeat' (with_reducible refine And.intro ?_ ?_)); all_goals try (first | omega | (refine ⟨?_, ?_⟩ <;> omega) | (exact rfl)))
  · have hlen := stkTo_len set j
    have h1 : j < set.length := by omega
    have h2 : j + 1 < set.length := by omega
    have a1 := rises_get hr h1
    have a2 := rises_get hr h2
    have e1 : set.getD j 0 = set[j] := by simp [List.getD_eq_getElem?_getD, h1]
    have e2 : set.getD (j + 1) 0 = set[j + 1] := by simp [List.getD_eq_getElem?_getD, h2]
    have g1 : set[(1 + (j : Int) - 1).toNat]? = some set[j] := by rw [show (1 + (j : Int) - 1).toNat = j by omega]; exact get_some h1
    have g2 : set[(1 + (j : Int)).toNat]? = some set[j + 1] := by rw [show (1 + (j : Int)).toNat = j + 1 by omega]; exact get_some h2
    have hlt : decide (1 + (j : Int) < (set.length : Int)) = true := decide_eq_true (by omega)
    rw [stkTo_succ, e1, e2]
    rw [e1] at a1
    rw [e2] at a2
    generalize stkTo set j = F at *
    generalize set[j] = x at *
    generalize set[j + 1] = y at *
    have htk := take_map_all eI F F.length (Nat.le_refl _)
    simp -dsimp -implicitDefEqProofs only [pick_nil, pick_cons, look_nil, look_cons, dropB_nil, dropB_cons, inD_nil, inD_cons, inE_nil, inE_cons, or_t_l, or_f_l, Nat.reduceBEq, Nat.reduceDiv, Nat.reduceAdd, beq_self_eq_true, Bool.false_eq_true, Bool.or_false, ↓reduceIte, Nat.reduceEqDiff, List.cons_append, List.nil_append]
    simp -dsimp -implicitDefEqProofs only [go_sem, ↓reduceIte, Nat.reduceEqDiff, Nat.reduceLT, Nat.reduceAdd, Nat.reduceMul, Nat.reduceLeDiff, Nat.le_refl, Int.natCast_zero, Int.toNat_natCast, Int.reduceToNat, hlt]
    refine Later.draw mixed rfl ?_
    simp -dsimp -implicitDefEqProofs only [go_sem, ↓reduceIte, Nat.reduceEqDiff, Nat.reduceLT, Nat.reduceAdd, Nat.reduceMul, Nat.reduceLeDiff, Nat.le_refl, Int.natCast_zero, Int.toNat_natCast, Int.reduceToNat, g1, g2, htk]
    ((repeat' (with_reducible refine And.intro ?_ ?_)); all_goals try (first | omega | (refine ⟨?_, ?_⟩ <;> omega) | (exact rfl)))
    all_goals first | (simp; done) | (simp; omega) | trace_state
  · have hlen := stkTo_len set (set.length - 1)
    have h1 : set.length - 1 < set.length := by omega
    have a1 := rises_get hr h1
    have e1 : set.getD (set.length - 1) 0 = set[set.length - 1] := by simp [List.getD_eq_getElem?_getD, h1]
    have g1 : set[((set.length : Int) - 1).toNat]? = some set[set.length - 1] := by rw [show ((set.length : Int) - 1).toNat = set.length - 1 by omega]; exact get_some h1
    have hlt : decide (1 + ((set.length - 1 : Nat) : Int) < (set.length : Int)) = false := decide_eq_false (by omega)
    unfold stk
    rw [e1]
    rw [e1] at a1
    generalize stkTo set (set.length - 1) = F at *
    generalize set[set.length - 1] = x at *
    have htk := take_map_all eI F F.length (Nat.le_refl _)
    have htk2 : ∀ z, List.take (F.length + 1) (List.map eI F ++ [eI z]) = List.map eI F ++ [eI z] := fun z => List.take_of_length_le (by simp)
    simp -dsimp -implicitDefEqProofs only [pick_nil, pick_cons, look_nil, look_cons, dropB_nil, dropB_cons, inD_nil, inD_cons, inE_nil, inE_cons, or_t_l, or_f_l, Nat.reduceBEq, Nat.reduceDiv, Nat.reduceAdd, beq_self_eq_true, Bool.false_eq_true, Bool.or_false, ↓reduceIte, Nat.reduceEqDiff, List.cons_append, List.nil_append]
    simp -dsimp -implicitDefEqProofs only [go_sem, ↓reduceIte, Nat.reduceEqDiff, Nat.reduceLT, Nat.reduceAdd, Nat.reduceMul, Nat.reduceLeDiff, Nat.le_refl, Int.natCast_zero, Int.toNat_natCast, Int.reduceToNat, hlt]
    refine Later.draw mixed rfl ?_
    simp -dsimp -implicitDefEqProofs only [go_sem, ↓reduceIte, Nat.reduceEqDiff, Nat.reduceLT, Nat.reduceAdd, Nat.reduceMul, Nat.reduceLeDiff, Nat.le_refl, Int.natCast_zero, Int.toNat_natCast, Int.reduceToNat, g1, htk, htk2]
    ((repeat' (with_reducible refine And.intro ?_ ?_)); all_goals try (first | omega | (refine ⟨?_, ?_⟩ <;> omega) | (exact rfl)))
    all_goals first | exact rfl | (simp; done) | trace_state
theorem c_stackOf (m : MkM) (set : List Int) (hm : isMk m = true) (hs : lockSet m set = true) (h : set.length ≤ 1048576) : Fn Tryz.prog 101 [eMk m, eIs set] true (· = eIs (stk m set)) := by
  refine Fn.of_vcN 43 [.tmp 4] Tryz.func101 rfl rfl rfl rfl rfl (of_decide_eq_true rfl) ?_
  have ⟨⟨n1, n2⟩, n3, n4⟩ := isMk_num hm
  obtain ⟨h0, hin⟩ := stk_in hs
  have hr : rises set m.depths = true := by simp only [lockSet, Bool.and_eq_true] at hs; exact hs.2
  have g0 := get_some h0
  have hg0 : set.getD 0 0 = set[0] := by simp [List.getD_eq_getElem?_getD, h0]
  simp -dsimp -implicitDefEqProofs only [go_sem, ↓reduceIte, Nat.reduceEqDiff, Nat.reduceLT, Nat.reduceAdd, Nat.reduceMul, Nat.reduceLeDiff, Nat.le_refl, Int.natCast_zero, Int.toNat_natCast, Int.reduceToNat, g0]
  refine ⟨by omega, ?_⟩
  refine Later.up [1, 2] [13, 28, 29] [10] (set.length - 1) (fun _ => True) (fun j => [(6, eI (1 + (j : Int))), (5, .ref 10 0 0 (stkTo set j).length)]) (fun j => [(10, .row 0 ⟨1, false⟩ true ((stkTo set j).map eI))]) trivial ?_ rfl (fun j hj _ => ?_) (fun _ => ?_)
  · simp -dsimp -implicitDefEqProofs only [go_sem, ↓reduceIte, Nat.reduceEqDiff, Nat.reduceLT, Nat.reduceAdd, Nat.reduceMul, Nat.reduceLeDiff, Nat.le_refl, Int.natCast_zero, Int.toNat_natCast, Int.reduceToNat, stkTo_zero, hg0]
    ((repeat' (with_reducible refine And.intro ?_ ?_)); all_goals try (first | omega | (refine ⟨?_, ?_⟩ <;> omega) | (exact rfl)))
  · have hlen := stkTo_len set j
    have h1 : j < set.length := by omega
    have h2 : j + 1 < set.length := by omega
    have a1 := rises_get hr h1
    have a2 := rises_get hr h2
    have e1 : set.getD j 0 = set[j] := by simp [List.getD_eq_getElem?_getD, h1]
    have e2 : set.getD (j + 1) 0 = set[j + 1] := by simp [List.getD_eq_getElem?_getD, h2]
    have g1 : set[(1 + (j : Int) - 1).toNat]? = some set[j] := by rw [show (1 + (j : Int) - 1).toNat = j by omega]; exact get_some h1
    have g2 : set[(1 + (j : Int)).toNat]? = some set[j + 1] := by rw [show (1 + (j : Int)).toNat = j + 1 by omega]; exact get_some h2
    have hlt : decide (1 + (j : Int) < (set.length : Int)) = true := decide_eq_true (by omega)
    rw [stkTo_succ, e1, e2]
    rw [e1] at a1
    rw [e2] at a2
    generalize stkTo set j = F at *
    generalize set[j] = x at *
    generalize set[j + 1] = y at *
    have htk := take_map_all eI F F.length (Nat.le_refl _)
    simp -dsimp -implicitDefEqProofs only [pick_nil, pick_cons, look_nil, look_cons, dropB_nil, dropB_cons, inD_nil, inD_cons, inE_nil, inE_cons, or_t_l, or_f_l, Nat.reduceBEq, Nat.reduceDiv, Nat.reduceAdd, beq_self_eq_true, Bool.false_eq_true, Bool.or_false, ↓reduceIte, Nat.reduceEqDiff, List.cons_append, List.nil_append]
    simp -dsimp -implicitDefEqProofs only [go_sem, ↓reduceIte, Nat.reduceEqDiff, Nat.reduceLT, Nat.reduceAdd, Nat.reduceMul, Nat.reduceLeDiff, Nat.le_refl, Int.natCast_zero, Int.toNat_natCast, Int.reduceToNat, hlt]
    refine Later.draw mixed rfl ?_
    simp -dsimp -implicitDefEqProofs only [go_sem, ↓reduceIte, Nat.reduceEqDiff, Nat.reduceLT, Nat.reduceAdd, Nat.reduceMul, Nat.reduceLeDiff, Nat.le_refl, Int.natCast_zero, Int.toNat_natCast, Int.reduceToNat, g1, g2, htk]
    ((repeat' (with_reducible refine And.intro ?_ ?_)); all_goals try (first | omega | (refine ⟨?_, ?_⟩ <;> omega) | (exact rfl)))
    all_goals first | (simp; done) | (simp; omega) | trace_state
  · have hlen := stkTo_len set (set.length - 1)
    have h1 : set.length - 1 < set.length := by omega
    have a1 := rises_get hr h1
    have e1 : set.getD (set.length - 1) 0 = set[set.length - 1] := by simp [List.getD_eq_getElem?_getD, h1]
    have g1 : set[((set.length : Int) - 1).toNat]? = some set[set.length - 1] := by rw [show ((set.length : Int) - 1).toNat = set.length - 1 by omega]; exact get_some h1
    have hlt : decide (1 + ((set.length - 1 : Nat) : Int) < (set.length : Int)) = false := decide_eq_false (by omega)
    unfold stk
    rw [e1]
    rw [e1] at a1
    generalize stkTo set (set.length - 1) = F at *
    generalize set[set.length - 1] = x at *
    have htk := take_map_all eI F F.length (Nat.le_refl _)
    have htk2 : ∀ z, List.take (F.length + 1) (List.map eI F ++ [eI z]) = List.map eI F ++ [eI z] := fun z => List.take_of_length_le (by simp)
    simp -dsimp -implicitDefEqProofs only [pick_nil, pick_cons, look_nil, look_cons, dropB_nil, dropB_cons, inD_nil, inD_cons, inE_nil, inE_cons, or_t_l, or_f_l, Nat.reduceBEq, Nat.reduceDiv, Nat.reduceAdd, beq_self_eq_true, Bool.false_eq_true, Bool.or_false, ↓reduceIte, Nat.reduceEqDiff, List.cons_append, List.nil_append]
    simp -dsimp -implicitDefEqProofs only [go_sem, ↓reduceIte, Nat.reduceEqDiff, Nat.reduceLT, Nat.reduceAdd, Nat.reduceMul, Nat.reduceLeDiff, Nat.le_refl, Int.natCast_zero, Int.toNat_natCast, Int.reduceToNat, hlt]
    refine Later.draw mixed rfl ?_
    simp -dsimp -implicitDefEqProofs only [go_sem, ↓reduceIte, Nat.reduceEqDiff, Nat.reduceLT, Nat.reduceAdd, Nat.reduceMul, Nat.reduceLeDiff, Nat.le_refl, Int.natCast_zero, Int.toNat_natCast, Int.reduceToNat, g1, htk, htk2]
    ((repeat' (with_reducible refine And.intro ?_ ?_)); all_goals try (first | omega | (refine ⟨?_, ?_⟩ <;> omega) | (exact rfl)))
    all_goals first | exact rfl | (simp; done) | trace_state
theorem c_l05Pins (m : MkM) (l : List (List Int)) (hm : isMk m = true) (hl : isLk0 m l = true) (h2 : ∀ x ∈ l, x.length ≤ 1048576) : Fn Tryz.prog 73 [eMk m, eLk l] false (· = eIss (pins m l)) := by
  have ⟨⟨n1, n2⟩, n3, n4⟩ := isMk_num hm
  simp only [isLk0, Bool.and_eq_true, List.all_eq_true, beq_iff_eq] at hl
  obtain ⟨hl1, hl2⟩ := hl
  refine Fn.of_vcS 26 [.tmp 4] Tryz.func73 rfl rfl rfl rfl rfl (of_decide_eq_true rfl) ?_
  simp -dsimp -implicitDefEqProofs only [go_sem, ↓reduceIte, Nat.reduceEqDiff, Nat.reduceLT, Nat.reduceAdd, Nat.reduceMul, Nat.reduceLeDiff, Nat.le_refl, Int.natCast_zero, Int.toNat_natCast, Int.reduceToNat]
  refine Later.up [2, 3] [11, 22, 23, 24] [7] l.length (fun _ => True) (fun i => [(6, eI i), (5, .ref 7 0 0 i)]) (fun i => [(7, .row 0 ⟨1, false⟩ (i == 0) (((l.take i).map (stk m)).map eIs))]) trivial ?_ rfl (fun i hi _ => ?_) (fun _ => ?_)
  · simp -dsimp -implicitDefEqProofs only [go_sem, ↓reduceIte, Nat.reduceEqDiff, Nat.reduceLT, Nat.reduceAdd, Nat.reduceMul, Nat.reduceLeDiff, Nat.le_refl, Int.natCast_zero, Int.toNat_natCast, Int.reduceToNat, List.take_zero, List.map_nil]
  · have gi := get_some hi
    have li := lt_len hi
    have hq := c_l05Stack m l[i] hm (hl2 _ (List.getElem_mem hi)) (h2 _ (List.getElem_mem hi))
    have ht : (l.take (i + 1)).map (stk m) = (l.take i).map (stk m) ++ [stk m l[i]] := by rw [List.take_succ_eq_append_getElem hi, List.map_append]; rfl
    have hln : ((l.take i).map (stk m)).length = i := by simp; omega
    rw [ht]
    generalize (l.take i).map (stk m) = F at *
    generalize stk m l[i] = s at *
    generalize l[i] = x at *
    have htk := take_map_all eIs F i (by omega)
    have e0 : (i + 1 == 0) = false := rfl
    have e2 : List.map eIs (F ++ [s]) = List.map eIs F ++ [eIs s] := by simp
    simp -dsimp -implicitDefEqProofs only [pick_nil, pick_cons, look_nil, look_cons, dropB_nil, dropB_cons, inD_nil, inD_cons, inE_nil, inE_cons, or_t_l, or_f_l, Nat.reduceBEq, Nat.reduceDiv, Nat.reduceAdd, beq_self_eq_true, Bool.false_eq_true, Bool.or_false, ↓reduceIte, Nat.reduceEqDiff, List.cons_append, List.nil_append]
    simp -dsimp -implicitDefEqProofs only [go_sem, ↓reduceIte, Nat.reduceEqDiff, Nat.reduceLT, Nat.reduceAdd, Nat.reduceMul, Nat.reduceLeDiff, Nat.le_refl, Int.natCast_zero, Int.toNat_natCast, Int.reduceToNat, li, gi]
    refine Later.draw mixed rfl ?_
    simp -dsimp -implicitDefEqProofs only [go_sem, ↓reduceIte, Nat.reduceEqDiff, Nat.reduceLT, Nat.reduceAdd, Nat.reduceMul, Nat.reduceLeDiff, Nat.le_refl, Int.natCast_zero, Int.toNat_natCast, Int.reduceToNat, gi]
    ((repeat' (with_reducible refine And.intro ?_ ?_)); all_goals try (first | omega | (refine ⟨?_, ?_⟩ <;> omega) | (exact rfl)))
    refine sCallX_one hq ?_
    simp -dsimp -implicitDefEqProofs only [go_sem, ↓reduceIte, Nat.reduceEqDiff, Nat.reduceLT, Nat.reduceAdd, Nat.reduceMul, Nat.reduceLeDiff, Nat.le_refl, Int.natCast_zero, Int.toNat_natCast, Int.reduceToNat]
    refine .inr ⟨by omega, by omega, (by cases i with | zero => exact .inr rfl | succ i => exact .inl rfl), by exact rfl, ⟨by omega, by omega⟩, rfl, ?_⟩
    rw [e0, e2]
    simp -dsimp -implicitDefEqProofs only [go_sem, ↓reduceIte, Nat.reduceEqDiff, Nat.reduceLT, Nat.reduceAdd, Nat.reduceMul, Nat.reduceLeDiff, Nat.le_refl, Int.natCast_zero, Int.toNat_natCast, Int.reduceToNat, htk]
    all_goals first | (simp; done) | trace_state
  · rw [List.take_length]
    unfold pins
    have hln : (l.map (stk m)).length = l.length := by simp
    generalize l.map (stk m) = F at *
    have htk := take_map_all eIs F l.length (by omega)
    simp -dsimp -implicitDefEqProofs only [pick_nil, pick_cons, look_nil, look_cons, dropB_nil, dropB_cons, inD_nil, inD_cons, inE_nil, inE_cons, or_t_l, or_f_l, Nat.reduceBEq, Nat.reduceDiv, Nat.reduceAdd, beq_self_eq_true, Bool.false_eq_true, Bool.or_false, ↓reduceIte, Nat.reduceEqDiff, List.cons_append, List.nil_append]
    simp -dsimp -implicitDefEqProofs only [go_sem, ↓reduceIte, Nat.reduceEqDiff, Nat.reduceLT, Nat.reduceAdd, Nat.reduceMul, Nat.reduceLeDiff, Nat.le_refl, Int.natCast_zero, Int.toNat_natCast, Int.reduceToNat, nlt_len]
    ((repeat' (with_reducible refine And.intro ?_ ?_)); all_goals try (first | omega | (refine ⟨?_, ?_⟩ <;> omega) | (exact rfl)))
    all_goals rw [htk]
theorem c_pinsOf (m : MkM) (l : List (List Int)) (hm : isMk m = true) (hl : isLk0 m l = true) (h2 : ∀ x ∈ l, x.length ≤ 1048576) : Fn Tryz.prog 79 [eMk m, eLk l] false (· = eIss (pins m l)) := by
  have ⟨⟨n1, n2⟩, n3, n4⟩ := isMk_num hm
  simp only [isLk0, Bool.and_eq_true, List.all_eq_true, beq_iff_eq] at hl
  obtain ⟨hl1, hl2⟩ := hl
  refine Fn.of_vcS 24 [.tmp 4] Tryz.func79 rfl rfl rfl rfl rfl (of_decide_eq_true rfl) ?_
  simp -dsimp -implicitDefEqProofs only [go_sem, ↓reduceIte, Nat.reduceEqDiff, Nat.reduceLT, Nat.reduceAdd, Nat.reduceMul, Nat.reduceLeDiff, Nat.le_refl, Int.natCast_zero, Int.toNat_natCast, Int.reduceToNat]
  refine Later.up [2, 10, 11] [19, 20, 21] [8] l.length (fun _ => True) (fun i => [(12, eI i), (5, .ref 8 0 0 i)]) (fun i => [(8, .row 0 ⟨1, false⟩ (i == 0) (((l.take i).map (stk m)).map eIs))]) trivial ?_ rfl (fun i hi _ => ?_) (fun _ => ?_)
  · simp -dsimp -implicitDefEqProofs only [go_sem, ↓reduceIte, Nat.reduceEqDiff, Nat.reduceLT, Nat.reduceAdd, Nat.reduceMul, Nat.reduceLeDiff, Nat.le_refl, Int.natCast_zero, Int.toNat_natCast, Int.reduceToNat, List.take_zero, List.map_nil]
  · have gi := get_some hi
    have li := lt_len hi
    have hq := c_stackOf m l[i] hm (hl2 _ (List.getElem_mem hi)) (h2 _ (List.getElem_mem hi))
    have ht : (l.take (i + 1)).map (stk m) = (l.take i).map (stk m) ++ [stk m l[i]] := by rw [List.take_succ_eq_append_getElem hi, List.map_append]; rfl
    have hln : ((l.take i).map (stk m)).length = i := by simp; omega
    rw [ht]
    generalize (l.take i).map (stk m) = F at *
    generalize stk m l[i] = s at *
    generalize l[i] = x at *
    have htk := take_map_all eIs F i (by omega)
    have e0 : (i + 1 == 0) = false := rfl
    have e2 : List.map eIs (F ++ [s]) = List.map eIs F ++ [eIs s] := by simp
    simp -dsimp -implicitDefEqProofs only [pick_nil, pick_cons, look_nil, look_cons, dropB_nil, dropB_cons, inD_nil, inD_cons, inE_nil, inE_cons, or_t_l, or_f_l, Nat.reduceBEq, Nat.reduceDiv, Nat.reduceAdd, beq_self_eq_true, Bool.false_eq_true, Bool.or_false, ↓reduceIte, Nat.reduceEqDiff, List.cons_append, List.nil_append]
    simp -dsimp -implicitDefEqProofs only [go_sem, ↓reduceIte, Nat.reduceEqDiff, Nat.reduceLT, Nat.reduceAdd, Nat.reduceMul, Nat.reduceLeDiff, Nat.le_refl, Int.natCast_zero, Int.toNat_natCast, Int.reduceToNat, li, gi]
    ((repeat' (with_reducible refine And.intro ?_ ?_)); all_goals try (first | omega | (refine ⟨?_, ?_⟩ <;> omega) | (exact rfl)))
    refine sCallT_one hq ?_
    simp -dsimp -implicitDefEqProofs only [go_sem, ↓reduceIte, Nat.reduceEqDiff, Nat.reduceLT, Nat.reduceAdd, Nat.reduceMul, Nat.reduceLeDiff, Nat.le_refl, Int.natCast_zero, Int.toNat_natCast, Int.reduceToNat]
    refine .inr ⟨by omega, by omega, (by cases i with | zero => exact .inr rfl | succ i => exact .inl rfl), ⟨by omega, by omega⟩, rfl, ?_⟩
    rw [e0, e2]
    simp -dsimp -implicitDefEqProofs only [go_sem, ↓reduceIte, Nat.reduceEqDiff, Nat.reduceLT, Nat.reduceAdd, Nat.reduceMul, Nat.reduceLeDiff, Nat.le_refl, Int.natCast_zero, Int.toNat_natCast, Int.reduceToNat, htk]
    all_goals first | (simp; done) | trace_state
  · rw [List.take_length]
    unfold pins
    have hln : (l.map (stk m)).length = l.length := by simp
    generalize l.map (stk m) = F at *
    have htk := take_map_all eIs F l.length (by omega)
    simp -dsimp -implicitDefEqProofs only [pick_nil, pick_cons, look_nil, look_cons, dropB_nil, dropB_cons, inD_nil, inD_cons, inE_nil, inE_cons, or_t_l, or_f_l, Nat.reduceBEq, Nat.reduceDiv, Nat.reduceAdd, beq_self_eq_true, Bool.false_eq_true, Bool.or_false, ↓reduceIte, Nat.reduceEqDiff, List.cons_append, List.nil_append]
    simp -dsimp -implicitDefEqProofs only [go_sem, ↓reduceIte, Nat.reduceEqDiff, Nat.reduceLT, Nat.reduceAdd, Nat.reduceMul, Nat.reduceLeDiff, Nat.le_refl, Int.natCast_zero, Int.toNat_natCast, Int.reduceToNat, nlt_len]
    ((repeat' (with_reducible refine And.intro ?_ ?_)); all_goals try (first | omega | (refine ⟨?_, ?_⟩ <;> omega) | (exact rfl)))
    all_goals rw [htk]
end Go.Vc


/-
  Contracts: the stock of one lock.
-/
set_option linter.unusedVariables false
set_option linter.unusedSimpArgs false
set_option linter.unnecessarySimpa false
namespace Go.Vc
open Go.Proofs
set_option maxRecDepth 100000
set_option maxHeartbeats 4000000
theorem okS.get {D : Nat} {c : Int} {xs : List Int} (h : okS D c xs) {x : Int} (h0 : 0 ≤ x) (h1 : x.toNat < D) : xs[x.toNat]? = some (xs.getD x.toNat 0) := by
  have : x.toNat < xs.length := by rw [h.1]; exact h1
  simp [List.getD_eq_getElem?_getD, this]
theorem inc1_map (xs : List Int) (x : Int) : (inc1 xs x).map eI = (xs.map eI).set x.toNat (eI (xs.getD x.toNat 0 + 1)) := by rw [inc1, List.map_set]
theorem pins_ok {m : MkM} {l : List (List Int)} (hl : isLk0 m l = true) (h2 : ∀ x ∈ l, x.length ≤ 1048576) : (pins m l).length = l.length ∧ ∀ c (hc : c < (pins m l).length), 2 ≤ (pins m l)[c].length ∧ (pins m l)[c].length ≤ 1048577 ∧ ∀ x ∈ (pins m l)[c], 0 ≤ x ∧ x < m.depths := by
  simp only [isLk0, Bool.and_eq_true, List.all_eq_true, beq_iff_eq] at hl
  refine ⟨by simp [pins], fun c hc => ?_⟩
  have hc' : c < l.length := by simpa [pins] using hc
  have e : (pins m l)[c] = stk m l[c] := by simp [pins]
  obtain ⟨h3, h4⟩ := stk_in (hl.2 _ (List.getElem_mem hc'))
  rw [e, stk_len h3]
  have := h2 _ (List.getElem_mem hc')
  exact ⟨by omega, by omega, h4⟩
theorem c01 : decide ((0 : Int) < ((1 : Nat) : Int)) = true := rfl
theorem c11 : decide (((1 : Nat) : Int) < ((1 : Nat) : Int)) = false := rfl
theorem c40 : decide (((1 : Nat) : Int) > 40) = false := rfl
theorem c_sStockOf (m : MkM) (l : List (List Int)) (hm : isMk m = true) (hl : isLk0 m l = true) (h2 : ∀ x ∈ l, x.length ≤ 1048576) : Fn Tryz.prog 38 [eMk m, .arr ⟨1, true⟩ [eLk l]] true (· = .tup [eIs (stockL m l).b, eIs (stockL m l).w, eIs (stockL m l).d, eI 0]) := by
  have ⟨⟨n1, n2⟩, n3, n4⟩ := isMk_num hm
  have hl1 : (l.length : Int) = m.chambers := by simp only [isLk0, Bool.and_eq_true, beq_iff_eq] at hl; exact hl.1
  have hmk := c_sIsMaker m
  have hlk := c_sIsLock m l (by omega) h2
  rw [hm] at hmk
  rw [isLk, hm, hl] at hlk
  have hpin := c_l05Pins m l hm hl h2
  obtain ⟨hpl, hpo⟩ := pins_ok hl h2
  have hst := fun c (hc : c ≤ (pins m l).length) => stTo_ok (zero3_ok m.depths.toNat) (ps := pins m l) (fun p hp => by
    obtain ⟨i, hi, rfl⟩ := List.getElem_of_mem hp
    exact (hpo i hi).2.1) c hc
  refine Fn.of_vcN 112 [.tmp 4, .tmp 5, .tmp 6, .tmp 7] Tryz.func38 rfl rfl rfl rfl rfl (of_decide_eq_true rfl) ?_
  unfold stockL
  rw [← hpl]
  generalize pins m l = P at *
  simp -dsimp -implicitDefEqProofs only [go_sem, ↓reduceIte, Nat.reduceEqDiff, Nat.reduceLT, Nat.reduceAdd, Nat.reduceMul, Nat.reduceLeDiff, Nat.le_refl, Int.natCast_zero, Int.toNat_natCast, Int.reduceToNat]
  refine sCallT_one hmk ?_
  simp -dsimp -implicitDefEqProofs only [go_sem, ↓reduceIte, Nat.reduceEqDiff, Nat.reduceLT, Nat.reduceAdd, Nat.reduceMul, Nat.reduceLeDiff, Nat.le_refl, Int.natCast_zero, Int.toNat_natCast, Int.reduceToNat]
  refine Later.up [1, 2] [22, 31] [] 1 (fun _ => True) (fun i => [(8, eI i)]) (fun _ => []) trivial ?_ rfl (fun i hi _ => ?_) (fun _ => ?_)
  · simp -dsimp -implicitDefEqProofs only [go_sem, ↓reduceIte, Nat.reduceEqDiff, Nat.reduceLT, Nat.reduceAdd, Nat.reduceMul, Nat.reduceLeDiff, Nat.le_refl, Int.natCast_zero, Int.toNat_natCast, Int.reduceToNat]
  · obtain rfl : i = 0 := by omega
    simp -dsimp -implicitDefEqProofs only [pick_nil, pick_cons, look_nil, look_cons, dropB_nil, dropB_cons, inD_nil, inD_cons, inE_nil, inE_cons, or_t_l, or_f_l, Nat.reduceBEq, Nat.reduceDiv, Nat.reduceAdd, beq_self_eq_true, Bool.false_eq_true, Bool.or_false, ↓reduceIte, Nat.reduceEqDiff, List.cons_append, List.nil_append]
    simp -dsimp -implicitDefEqProofs only [go_sem, ↓reduceIte, Nat.reduceEqDiff, Nat.reduceLT, Nat.reduceAdd, Nat.reduceMul, Nat.reduceLeDiff, Nat.le_refl, Int.natCast_zero, Int.toNat_natCast, Int.reduceToNat, c01]
    refine Later.draw mixed rfl ?_
    simp -dsimp -implicitDefEqProofs only [go_sem, ↓reduceIte, Nat.reduceEqDiff, Nat.reduceLT, Nat.reduceAdd, Nat.reduceMul, Nat.reduceLeDiff, Nat.le_refl, Int.natCast_zero, Int.toNat_natCast, Int.reduceToNat]
    ((repeat' (with_reducible refine And.intro ?_ ?_)); all_goals try (first | omega | (refine ⟨?_, ?_⟩ <;> omega) | (exact rfl)))
    refine sCallX_one hlk ?_
    simp -dsimp -implicitDefEqProofs only [go_sem, ↓reduceIte, Nat.reduceEqDiff, Nat.reduceLT, Nat.reduceAdd, Nat.reduceMul, Nat.reduceLeDiff, Nat.le_refl, Int.natCast_zero, Int.toNat_natCast, Int.reduceToNat]
    ((repeat' (with_reducible refine And.intro ?_ ?_)); all_goals try (first | omega | (refine ⟨?_, ?_⟩ <;> omega) | (exact rfl)))
    all_goals trace_state
  · simp -dsimp -implicitDefEqProofs only [pick_nil, pick_cons, look_nil, look_cons, dropB_nil, dropB_cons, inD_nil, inD_cons, inE_nil, inE_cons, or_t_l, or_f_l, Nat.reduceBEq, Nat.reduceDiv, Nat.reduceAdd, beq_self_eq_true, Bool.false_eq_true, Bool.or_false, ↓reduceIte, Nat.reduceEqDiff, List.cons_append, List.nil_append]
    simp -dsimp -implicitDefEqProofs only [go_sem, ↓reduceIte, Nat.reduceEqDiff, Nat.reduceLT, Nat.reduceAdd, Nat.reduceMul, Nat.reduceLeDiff, Nat.le_refl, Int.natCast_zero, Int.toNat_natCast, Int.reduceToNat, c11, c40]
    refine Later.draw mixed rfl ?_
    simp -dsimp -implicitDefEqProofs only [go_sem, ↓reduceIte, Nat.reduceEqDiff, Nat.reduceLT, Nat.reduceAdd, Nat.reduceMul, Nat.reduceLeDiff, Nat.le_refl, Int.natCast_zero, Int.toNat_natCast, Int.reduceToNat]
    refine ⟨⟨by omega, by omega⟩, ⟨by omega, by omega⟩, ⟨by omega, by omega⟩, by exact rfl, ?_⟩
    refine Later.up [1, 2, 9, 10, 11] [47, 56, 59, 67] [38, 41, 44] 1 (fun _ => True) (fun i => [(12, eI i)]) (fun i => [(38, .row 0 ⟨1, false⟩ true ((stTo P (zero3 m.depths.toNat) (i * P.length)).b.map eI)), (41, .row 0 ⟨1, false⟩ true ((stTo P (zero3 m.depths.toNat) (i * P.length)).w.map eI)), (44, .row 0 ⟨1, false⟩ true ((stTo P (zero3 m.depths.toNat) (i * P.length)).d.map eI))]) trivial ?_ rfl (fun i hi _ => ?_) (fun _ => ?_)
    · simp -dsimp -implicitDefEqProofs only [go_sem, ↓reduceIte, Nat.reduceEqDiff, Nat.reduceLT, Nat.reduceAdd, Nat.reduceMul, Nat.reduceLeDiff, Nat.le_refl, Int.natCast_zero, Int.toNat_natCast, Int.reduceToNat, Nat.zero_mul, stTo_zero, zero3, List.map_replicate]
      ((repeat' (with_reducible refine And.intro ?_ ?_)); all_goals try (first | omega | (refine ⟨?_, ?_⟩ <;> omega) | (exact rfl)))
    · obtain rfl : i = 0 := by omega
      rw [Nat.zero_mul, Nat.zero_add, Nat.one_mul]
      simp -dsimp -implicitDefEqProofs only [pick_nil, pick_cons, look_nil, look_cons, dropB_nil, dropB_cons, inD_nil, inD_cons, inE_nil, inE_cons, or_t_l, or_f_l, Nat.reduceBEq, Nat.reduceDiv, Nat.reduceAdd, beq_self_eq_true, Bool.false_eq_true, Bool.or_false, ↓reduceIte, Nat.reduceEqDiff, List.cons_append, List.nil_append]
      simp -dsimp -implicitDefEqProofs only [go_sem, ↓reduceIte, Nat.reduceEqDiff, Nat.reduceLT, Nat.reduceAdd, Nat.reduceMul, Nat.reduceLeDiff, Nat.le_refl, Int.natCast_zero, Int.toNat_natCast, Int.reduceToNat, c01, stTo_zero]
      refine Later.draw mixed rfl ?_
      simp -dsimp -implicitDefEqProofs only [go_sem, ↓reduceIte, Nat.reduceEqDiff, Nat.reduceLT, Nat.reduceAdd, Nat.reduceMul, Nat.reduceLeDiff, Nat.le_refl, Int.natCast_zero, Int.toNat_natCast, Int.reduceToNat]
      ((repeat' (with_reducible refine And.intro ?_ ?_)); all_goals try (first | omega | (refine ⟨?_, ?_⟩ <;> omega) | (exact rfl)))
      refine sCallXS_one hpin (by simp [noLabs, labs, labsL, isClo]) ?_
      simp -dsimp -implicitDefEqProofs only [go_sem, ↓reduceIte, Nat.reduceEqDiff, Nat.reduceLT, Nat.reduceAdd, Nat.reduceMul, Nat.reduceLeDiff, Nat.le_refl, Int.natCast_zero, Int.toNat_natCast, Int.reduceToNat]
      ((repeat' (with_reducible refine And.intro ?_ ?_)); all_goals try (first | omega | (refine ⟨?_, ?_⟩ <;> omega) | (exact rfl)))
      refine Later.up [1, 2, 9, 10, 11, 12, 13] [59, 67] [38, 41, 44] P.length (fun _ => True) (fun c => [(14, eI c)]) (fun c => [(38, .row 0 ⟨1, false⟩ true ((stTo P (zero3 m.depths.toNat) c).b.map eI)), (41, .row 0 ⟨1, false⟩ true ((stTo P (zero3 m.depths.toNat) c).w.map eI)), (44, .row 0 ⟨1, false⟩ true ((stTo P (zero3 m.depths.toNat) c).d.map eI))]) trivial ?_ rfl (fun c hc _ => ?_) (fun _ => ?_)
      · simp -dsimp -implicitDefEqProofs only [go_sem, ↓reduceIte, Nat.reduceEqDiff, Nat.reduceLT, Nat.reduceAdd, Nat.reduceMul, Nat.reduceLeDiff, Nat.le_refl, Int.natCast_zero, Int.toNat_natCast, Int.reduceToNat, stTo_zero]
        ((repeat' (with_reducible refine And.intro ?_ ?_)); all_goals try (first | omega | (refine ⟨?_, ?_⟩ <;> omega) | (exact rfl)))
      · have lc := lt_len hc
        have gp := get_some hc
        have hgd : P.getD c [] = P[c] := by simp [List.getD_eq_getElem?_getD, hc]
        obtain ⟨p1, p2, p3⟩ := hpo c hc
        obtain ⟨o1, o2, o3⟩ := hst c (by omega)
        rw [stTo_succ, hgd]
        generalize stTo P (zero3 m.depths.toNat) c = Z at *
        generalize P[c] = p at *
        have h0 : 0 < p.length := by omega
        have hL : p.length - 1 < p.length := by omega
        have g0 := get_some h0
        have gL : p[((p.length : Int) - 1).toNat]? = some p[p.length - 1] := by rw [show ((p.length : Int) - 1).toNat = p.length - 1 by omega]; exact get_some hL
        have x0 := p3 _ (List.getElem_mem h0)
        have xL := p3 _ (List.getElem_mem hL)
        have e0 : p.getD 0 0 = p[0] := by simp [List.getD_eq_getElem?_getD, h0]
        have eL : p.getD (p.length - 1) 0 = p[p.length - 1] := by simp [List.getD_eq_getElem?_getD, hL]
        unfold st1
        rw [e0, eL]
        have gb := o1.get x0.1 (by omega)
        have gd := o3.get xL.1 (by omega)
        have bb := o1.2 p[0].toNat (by omega)
        have bd := o3.2 p[p.length - 1].toNat (by omega)
        have hw := fun k => wTo_ok o2 p k
        have hlast : decide ((1 : Int) + ((p.length - 2 : Nat) : Int) < (p.length : Int) - 1) = false := decide_eq_false (by omega)
        clear e0 eL
        generalize p[0] = y0 at *
        generalize p[p.length - 1] = yL at *
        simp only [inc1_map]
        generalize Z.b.getD y0.toNat 0 = vb at *
        generalize Z.d.getD yL.toNat 0 = vd at *
        simp -dsimp -implicitDefEqProofs only [pick_nil, pick_cons, look_nil, look_cons, dropB_nil, dropB_cons, inD_nil, inD_cons, inE_nil, inE_cons, or_t_l, or_f_l, Nat.reduceBEq, Nat.reduceDiv, Nat.reduceAdd, beq_self_eq_true, Bool.false_eq_true, Bool.or_false, ↓reduceIte, Nat.reduceEqDiff, List.cons_append, List.nil_append]
        simp -dsimp -implicitDefEqProofs only [go_sem, ↓reduceIte, Nat.reduceEqDiff, Nat.reduceLT, Nat.reduceAdd, Nat.reduceMul, Nat.reduceLeDiff, Nat.le_refl, Int.natCast_zero, Int.toNat_natCast, Int.reduceToNat, lc, gp, g0, gL, gb, gd]
        ((repeat' (with_reducible refine And.intro ?_ ?_)); all_goals try (first | omega | (refine ⟨?_, ?_⟩ <;> omega) | (exact rfl)))
        refine Later.up [1, 2, 9, 10, 11, 12, 13, 14, 15] [] [41] (p.length - 2) (fun _ => True) (fun k => [(16, eI (1 + (k : Int)))]) (fun k => [(41, .row 0 ⟨1, false⟩ true ((wTo Z.w p k).map eI))]) trivial ?_ rfl (fun k hk _ => ?_) (fun _ => ?_)
        · simp -dsimp -implicitDefEqProofs only [go_sem, ↓reduceIte, Nat.reduceEqDiff, Nat.reduceLT, Nat.reduceAdd, Nat.reduceMul, Nat.reduceLeDiff, Nat.le_refl, Int.natCast_zero, Int.toNat_natCast, Int.reduceToNat, wTo_zero]
          ((repeat' (with_reducible refine And.intro ?_ ?_)); all_goals try (first | omega | (refine ⟨?_, ?_⟩ <;> omega) | (exact rfl)))
        · have hk1 : k + 1 < p.length := by omega
          have gk : p[(1 + (k : Int)).toNat]? = some p[k + 1] := by rw [show (1 + (k : Int)).toNat = k + 1 by omega]; exact get_some hk1
          have xk := p3 _ (List.getElem_mem hk1)
          have ek : p.getD (k + 1) 0 = p[k + 1] := by simp [List.getD_eq_getElem?_getD, hk1]
          have hlt : decide ((1 : Int) + (k : Int) < (p.length : Int) - 1) = true := decide_eq_true (by omega)
          have ow := hw k
          rw [wTo_succ, ek]
          clear ek hw
          generalize p[k + 1] = yk at *
          have gw := ow.get xk.1 (by omega)
          have bw := ow.2 yk.toNat (by omega)
          rw [inc1_map]
          generalize wTo Z.w p k = W at *
          generalize W.getD yk.toNat 0 = vw at *
          simp -dsimp -implicitDefEqProofs only [pick_nil, pick_cons, look_nil, look_cons, dropB_nil, dropB_cons, inD_nil, inD_cons, inE_nil, inE_cons, or_t_l, or_f_l, Nat.reduceBEq, Nat.reduceDiv, Nat.reduceAdd, beq_self_eq_true, Bool.false_eq_true, Bool.or_false, ↓reduceIte, Nat.reduceEqDiff, List.cons_append, List.nil_append]
          simp -dsimp -implicitDefEqProofs only [go_sem, ↓reduceIte, Nat.reduceEqDiff, Nat.reduceLT, Nat.reduceAdd, Nat.reduceMul, Nat.reduceLeDiff, Nat.le_refl, Int.natCast_zero, Int.toNat_natCast, Int.reduceToNat, hlt, gp, gk, gw]
          ((repeat' (with_reducible refine And.intro ?_ ?_)); all_goals try (first | omega | (refine ⟨?_, ?_⟩ <;> omega) | (exact rfl)))
          all_goals first | (simp; done) | (simp; omega) | trace_state
        · simp -dsimp -implicitDefEqProofs only [pick_nil, pick_cons, look_nil, look_cons, dropB_nil, dropB_cons, inD_nil, inD_cons, inE_nil, inE_cons, or_t_l, or_f_l, Nat.reduceBEq, Nat.reduceDiv, Nat.reduceAdd, beq_self_eq_true, Bool.false_eq_true, Bool.or_false, ↓reduceIte, Nat.reduceEqDiff, List.cons_append, List.nil_append]
          simp -dsimp -implicitDefEqProofs only [go_sem, ↓reduceIte, Nat.reduceEqDiff, Nat.reduceLT, Nat.reduceAdd, Nat.reduceMul, Nat.reduceLeDiff, Nat.le_refl, Int.natCast_zero, Int.toNat_natCast, Int.reduceToNat, hlast]
          ((repeat' (with_reducible refine And.intro ?_ ?_)); all_goals try (first | omega | (refine ⟨?_, ?_⟩ <;> omega) | (exact rfl)))
          all_goals trace_state
      · simp -dsimp -implicitDefEqProofs only [pick_nil, pick_cons, look_nil, look_cons, dropB_nil, dropB_cons, inD_nil, inD_cons, inE_nil, inE_cons, or_t_l, or_f_l, Nat.reduceBEq, Nat.reduceDiv, Nat.reduceAdd, beq_self_eq_true, Bool.false_eq_true, Bool.or_false, ↓reduceIte, Nat.reduceEqDiff, List.cons_append, List.nil_append]
        simp -dsimp -implicitDefEqProofs only [go_sem, ↓reduceIte, Nat.reduceEqDiff, Nat.reduceLT, Nat.reduceAdd, Nat.reduceMul, Nat.reduceLeDiff, Nat.le_refl, Int.natCast_zero, Int.toNat_natCast, Int.reduceToNat, nlt_len]
        ((repeat' (with_reducible refine And.intro ?_ ?_)); all_goals try (first | omega | (refine ⟨?_, ?_⟩ <;> omega) | (exact rfl)))
        all_goals trace_state
    · rw [Nat.one_mul]
      obtain ⟨o1, o2, o3⟩ := hst P.length (Nat.le_refl _)
      generalize stTo P (zero3 m.depths.toNat) P.length = Z at *
      obtain ⟨l1, _⟩ := o1
      obtain ⟨l2, _⟩ := o2
      obtain ⟨l3, _⟩ := o3
      have t1 := take_map_all eI Z.b m.depths.toNat (by omega)
      have t2 := take_map_all eI Z.w m.depths.toNat (by omega)
      have t3 := take_map_all eI Z.d m.depths.toNat (by omega)
      simp -dsimp -implicitDefEqProofs only [pick_nil, pick_cons, look_nil, look_cons, dropB_nil, dropB_cons, inD_nil, inD_cons, inE_nil, inE_cons, or_t_l, or_f_l, Nat.reduceBEq, Nat.reduceDiv, Nat.reduceAdd, beq_self_eq_true, Bool.false_eq_true, Bool.or_false, ↓reduceIte, Nat.reduceEqDiff, List.cons_append, List.nil_append]
      simp -dsimp -implicitDefEqProofs only [go_sem, ↓reduceIte, Nat.reduceEqDiff, Nat.reduceLT, Nat.reduceAdd, Nat.reduceMul, Nat.reduceLeDiff, Nat.le_refl, Int.natCast_zero, Int.toNat_natCast, Int.reduceToNat, c11]
      ((repeat' (with_reducible refine And.intro ?_ ?_)); all_goals try (first | omega | (refine ⟨?_, ?_⟩ <;> omega) | (exact rfl)))
      all_goals first | (rw [t1]; done) | (rw [t2]; done) | (rw [t3]; done) | (simp; done) | trace_state
theorem c_iStockOf (m : MkM) (l : List (List Int)) (hm : isMk m = true) (hl : isLk0 m l = true) (h2 : ∀ x ∈ l, x.length ≤ 1048576) : Fn Tryz.prog 45 [eMk m, .arr ⟨1, true⟩ [eLk l]] true (· = .tup [eIs (stockL m l).b, eIs (stockL m l).w, eIs (stockL m l).d, eI 0]) := by
  have ⟨⟨n1, n2⟩, n3, n4⟩ := isMk_num hm
  have hl1 : (l.length : Int) = m.chambers := by simp only [isLk0, Bool.and_eq_true, beq_iff_eq] at hl; exact hl.1
  have hlc := c_locksCode m [l] (by simp) (fun x hx => by simp only [List.mem_singleton] at hx; subst hx; exact ⟨by omega, h2⟩)
  rw [lkCodes_one, isLk, hm, hl] at hlc
  have hpin := c_pinsOf m l hm hl h2
  obtain ⟨hpl, hpo⟩ := pins_ok hl h2
  have hst := fun c (hc : c ≤ (pins m l).length) => stTo_ok (zero3_ok m.depths.toNat) (ps := pins m l) (fun p hp => by
    obtain ⟨i, hi, rfl⟩ := List.getElem_of_mem hp
    exact (hpo i hi).2.1) c hc
  refine Fn.of_vcN 91 [.tmp 4, .tmp 5, .tmp 6, .tmp 7] Tryz.func45 rfl rfl rfl rfl rfl (of_decide_eq_true rfl) ?_
  unfold stockL
  rw [← hpl]
  generalize pins m l = P at *
  simp -dsimp -implicitDefEqProofs only [go_sem, ↓reduceIte, Nat.reduceEqDiff, Nat.reduceLT, Nat.reduceAdd, Nat.reduceMul, Nat.reduceLeDiff, Nat.le_refl, Int.natCast_zero, Int.toNat_natCast, Int.reduceToNat]
  refine sCallT_one hlc ?_
  simp -dsimp -implicitDefEqProofs only [go_sem, ↓reduceIte, Nat.reduceEqDiff, Nat.reduceLT, Nat.reduceAdd, Nat.reduceMul, Nat.reduceLeDiff, Nat.le_refl, Int.natCast_zero, Int.toNat_natCast, Int.reduceToNat, c40]
  refine Later.draw mixed rfl ?_
  simp -dsimp -implicitDefEqProofs only [go_sem, ↓reduceIte, Nat.reduceEqDiff, Nat.reduceLT, Nat.reduceAdd, Nat.reduceMul, Nat.reduceLeDiff, Nat.le_refl, Int.natCast_zero, Int.toNat_natCast, Int.reduceToNat]
  refine ⟨⟨by omega, by omega⟩, ⟨by omega, by omega⟩, ⟨by omega, by omega⟩, by exact rfl, ?_⟩
  refine Later.up [2, 9, 10, 11, 37, 38] [13, 45, 46, 52, 74] [30, 33, 36] 1 (fun _ => True) (fun i => [(39, eI i)]) (fun i => [(30, .row 0 ⟨1, false⟩ true ((stTo P (zero3 m.depths.toNat) (i * P.length)).b.map eI)), (33, .row 0 ⟨1, false⟩ true ((stTo P (zero3 m.depths.toNat) (i * P.length)).w.map eI)), (36, .row 0 ⟨1, false⟩ true ((stTo P (zero3 m.depths.toNat) (i * P.length)).d.map eI))]) trivial ?_ rfl (fun i hi _ => ?_) (fun _ => ?_)
  · simp -dsimp -implicitDefEqProofs only [go_sem, ↓reduceIte, Nat.reduceEqDiff, Nat.reduceLT, Nat.reduceAdd, Nat.reduceMul, Nat.reduceLeDiff, Nat.le_refl, Int.natCast_zero, Int.toNat_natCast, Int.reduceToNat, Nat.zero_mul, stTo_zero, zero3, List.map_replicate]
    ((repeat' (with_reducible refine And.intro ?_ ?_)); all_goals try (first | omega | (refine ⟨?_, ?_⟩ <;> omega) | (exact rfl)))
  · obtain rfl : i = 0 := by omega
    rw [Nat.zero_mul, Nat.zero_add, Nat.one_mul]
    simp -dsimp -implicitDefEqProofs only [pick_nil, pick_cons, look_nil, look_cons, dropB_nil, dropB_cons, inD_nil, inD_cons, inE_nil, inE_cons, or_t_l, or_f_l, Nat.reduceBEq, Nat.reduceDiv, Nat.reduceAdd, beq_self_eq_true, Bool.false_eq_true, Bool.or_false, ↓reduceIte, Nat.reduceEqDiff, List.cons_append, List.nil_append]
    simp -dsimp -implicitDefEqProofs only [go_sem, ↓reduceIte, Nat.reduceEqDiff, Nat.reduceLT, Nat.reduceAdd, Nat.reduceMul, Nat.reduceLeDiff, Nat.le_refl, Int.natCast_zero, Int.toNat_natCast, Int.reduceToNat, c01, stTo_zero]
    ((repeat' (with_reducible refine And.intro ?_ ?_)); all_goals try (first | omega | (refine ⟨?_, ?_⟩ <;> omega) | (exact rfl)))
    refine sCallS_one hpin (by simp [noLabs, labs, labsL, isClo]) ?_
    simp -dsimp -implicitDefEqProofs only [go_sem, ↓reduceIte, Nat.reduceEqDiff, Nat.reduceLT, Nat.reduceAdd, Nat.reduceMul, Nat.reduceLeDiff, Nat.le_refl, Int.natCast_zero, Int.toNat_natCast, Int.reduceToNat]
    ((repeat' (with_reducible refine And.intro ?_ ?_)); all_goals try (first | omega | (refine ⟨?_, ?_⟩ <;> omega) | (exact rfl)))
    refine Later.up [2, 9, 10, 11, 37, 38, 39, 45, 46] [52, 74] [30, 33, 36] P.length (fun _ => True) (fun c => [(47, eI c)]) (fun c => [(30, .row 0 ⟨1, false⟩ true ((stTo P (zero3 m.depths.toNat) c).b.map eI)), (33, .row 0 ⟨1, false⟩ true ((stTo P (zero3 m.depths.toNat) c).w.map eI)), (36, .row 0 ⟨1, false⟩ true ((stTo P (zero3 m.depths.toNat) c).d.map eI))]) trivial ?_ rfl (fun c hc _ => ?_) (fun _ => ?_)
    · simp -dsimp -implicitDefEqProofs only [go_sem, ↓reduceIte, Nat.reduceEqDiff, Nat.reduceLT, Nat.reduceAdd, Nat.reduceMul, Nat.reduceLeDiff, Nat.le_refl, Int.natCast_zero, Int.toNat_natCast, Int.reduceToNat, stTo_zero]
      ((repeat' (with_reducible refine And.intro ?_ ?_)); all_goals try (first | omega | (refine ⟨?_, ?_⟩ <;> omega) | (exact rfl)))
    · have lc := lt_len hc
      have gp := get_some hc
      have hgd : P.getD c [] = P[c] := by simp [List.getD_eq_getElem?_getD, hc]
      obtain ⟨p1, p2, p3⟩ := hpo c hc
      obtain ⟨o1, o2, o3⟩ := hst c (by omega)
      rw [stTo_succ, hgd]
      generalize stTo P (zero3 m.depths.toNat) c = Z at *
      generalize P[c] = p at *
      have h0 : 0 < p.length := by omega
      have hL : p.length - 1 < p.length := by omega
      have g0 := get_some h0
      have gL : p[((p.length : Int) - 1).toNat]? = some p[p.length - 1] := by rw [show ((p.length : Int) - 1).toNat = p.length - 1 by omega]; exact get_some hL
      have x0 := p3 _ (List.getElem_mem h0)
      have xL := p3 _ (List.getElem_mem hL)
      have e0 : p.getD 0 0 = p[0] := by simp [List.getD_eq_getElem?_getD, h0]
      have eL : p.getD (p.length - 1) 0 = p[p.length - 1] := by simp [List.getD_eq_getElem?_getD, hL]
      unfold st1
      rw [e0, eL]
      have gb := o1.get x0.1 (by omega)
      have gd := o3.get xL.1 (by omega)
      have bb := o1.2 p[0].toNat (by omega)
      have bd := o3.2 p[p.length - 1].toNat (by omega)
      have hw := fun k => wTo_ok o2 p k
      clear e0 eL
      generalize p[0] = y0 at *
      generalize p[p.length - 1] = yL at *
      simp only [inc1_map]
      generalize Z.b.getD y0.toNat 0 = vb at *
      generalize Z.d.getD yL.toNat 0 = vd at *
      have hsl : List.take (((p.length : Int) - 1).toNat - 1) (List.drop 1 (List.map eI p)) = ((p.drop 1).take (p.length - 2)).map eI := by
        rw [show ((p.length : Int) - 1).toNat - 1 = p.length - 2 by omega, List.map_take, List.map_drop]
      have hql : ((p.drop 1).take (p.length - 2)).length = p.length - 2 := by simp; omega
      have hq : ∀ k (hk : k < p.length - 2), ((p.drop 1).take (p.length - 2))[k]? = p[k + 1]? := fun k hk => by
        rw [List.getElem?_take, if_pos hk, List.getElem?_drop, Nat.add_comm]
      generalize (p.drop 1).take (p.length - 2) = q at *
      simp -dsimp -implicitDefEqProofs only [pick_nil, pick_cons, look_nil, look_cons, dropB_nil, dropB_cons, inD_nil, inD_cons, inE_nil, inE_cons, or_t_l, or_f_l, Nat.reduceBEq, Nat.reduceDiv, Nat.reduceAdd, beq_self_eq_true, Bool.false_eq_true, Bool.or_false, ↓reduceIte, Nat.reduceEqDiff, List.cons_append, List.nil_append]
      simp -dsimp -implicitDefEqProofs only [go_sem, ↓reduceIte, Nat.reduceEqDiff, Nat.reduceLT, Nat.reduceAdd, Nat.reduceMul, Nat.reduceLeDiff, Nat.le_refl, Int.natCast_zero, Int.toNat_natCast, Int.reduceToNat, lc, gp, g0, gL, gb, gd, hsl]
      ((repeat' (with_reducible refine And.intro ?_ ?_)); all_goals try (first | omega | (refine ⟨?_, ?_⟩ <;> omega) | (exact rfl)))
      refine Later.up [2, 9, 10, 11, 37, 38, 39, 45, 46, 47, 73, 74] [] [33] (p.length - 2) (fun _ => True) (fun k => [(75, eI k)]) (fun k => [(33, .row 0 ⟨1, false⟩ true ((wTo Z.w p k).map eI))]) trivial ?_ rfl (fun k hk _ => ?_) (fun _ => ?_)
      · simp -dsimp -implicitDefEqProofs only [go_sem, ↓reduceIte, Nat.reduceEqDiff, Nat.reduceLT, Nat.reduceAdd, Nat.reduceMul, Nat.reduceLeDiff, Nat.le_refl, Int.natCast_zero, Int.toNat_natCast, Int.reduceToNat, wTo_zero]
        ((repeat' (with_reducible refine And.intro ?_ ?_)); all_goals try (first | omega | (refine ⟨?_, ?_⟩ <;> omega) | (exact rfl)))
      · have hk1 : k + 1 < p.length := by omega
        have gk : q[k]? = some p[k + 1] := by rw [hq k hk]; exact get_some hk1
        have xk := p3 _ (List.getElem_mem hk1)
        have ek : p.getD (k + 1) 0 = p[k + 1] := by simp [List.getD_eq_getElem?_getD, hk1]
        have hlt : decide ((k : Int) < (q.length : Int)) = true := decide_eq_true (by omega)
        have ow := hw k
        rw [wTo_succ, ek]
        clear ek hw hq
        generalize p[k + 1] = yk at *
        have gw := ow.get xk.1 (by omega)
        have bw := ow.2 yk.toNat (by omega)
        rw [inc1_map]
        generalize wTo Z.w p k = W at *
        generalize W.getD yk.toNat 0 = vw at *
        simp -dsimp -implicitDefEqProofs only [pick_nil, pick_cons, look_nil, look_cons, dropB_nil, dropB_cons, inD_nil, inD_cons, inE_nil, inE_cons, or_t_l, or_f_l, Nat.reduceBEq, Nat.reduceDiv, Nat.reduceAdd, beq_self_eq_true, Bool.false_eq_true, Bool.or_false, ↓reduceIte, Nat.reduceEqDiff, List.cons_append, List.nil_append]
        simp -dsimp -implicitDefEqProofs only [go_sem, ↓reduceIte, Nat.reduceEqDiff, Nat.reduceLT, Nat.reduceAdd, Nat.reduceMul, Nat.reduceLeDiff, Nat.le_refl, Int.natCast_zero, Int.toNat_natCast, Int.reduceToNat, hlt, gp, gk, gw]
        ((repeat' (with_reducible refine And.intro ?_ ?_)); all_goals try (first | omega | (refine ⟨?_, ?_⟩ <;> omega) | (exact rfl)))
        all_goals first | (simp; done) | (simp; omega) | trace_state
      · have hlast : decide (((p.length - 2 : Nat) : Int) < (q.length : Int)) = false := decide_eq_false (by omega)
        simp -dsimp -implicitDefEqProofs only [pick_nil, pick_cons, look_nil, look_cons, dropB_nil, dropB_cons, inD_nil, inD_cons, inE_nil, inE_cons, or_t_l, or_f_l, Nat.reduceBEq, Nat.reduceDiv, Nat.reduceAdd, beq_self_eq_true, Bool.false_eq_true, Bool.or_false, ↓reduceIte, Nat.reduceEqDiff, List.cons_append, List.nil_append]
        simp -dsimp -implicitDefEqProofs only [go_sem, ↓reduceIte, Nat.reduceEqDiff, Nat.reduceLT, Nat.reduceAdd, Nat.reduceMul, Nat.reduceLeDiff, Nat.le_refl, Int.natCast_zero, Int.toNat_natCast, Int.reduceToNat, hlast]
        ((repeat' (with_reducible refine And.intro ?_ ?_)); all_goals try (first | omega | (refine ⟨?_, ?_⟩ <;> omega) | (exact rfl)))
        all_goals trace_state
    · simp -dsimp -implicitDefEqProofs only [pick_nil, pick_cons, look_nil, look_cons, dropB_nil, dropB_cons, inD_nil, inD_cons, inE_nil, inE_cons, or_t_l, or_f_l, Nat.reduceBEq, Nat.reduceDiv, Nat.reduceAdd, beq_self_eq_true, Bool.false_eq_true, Bool.or_false, ↓reduceIte, Nat.reduceEqDiff, List.cons_append, List.nil_append]
      simp -dsimp -implicitDefEqProofs only [go_sem, ↓reduceIte, Nat.reduceEqDiff, Nat.reduceLT, Nat.reduceAdd, Nat.reduceMul, Nat.reduceLeDiff, Nat.le_refl, Int.natCast_zero, Int.toNat_natCast, Int.reduceToNat, nlt_len]
      ((repeat' (with_reducible refine And.intro ?_ ?_)); all_goals try (first | omega | (refine ⟨?_, ?_⟩ <;> omega) | (exact rfl)))
      all_goals trace_state
  · rw [Nat.one_mul]
    obtain ⟨o1, o2, o3⟩ := hst P.length (Nat.le_refl _)
    generalize stTo P (zero3 m.depths.toNat) P.length = Z at *
    obtain ⟨l1, _⟩ := o1
    obtain ⟨l2, _⟩ := o2
    obtain ⟨l3, _⟩ := o3
    have t1 := take_map_all eI Z.b m.depths.toNat (by omega)
    have t2 := take_map_all eI Z.w m.depths.toNat (by omega)
    have t3 := take_map_all eI Z.d m.depths.toNat (by omega)
    simp -dsimp -implicitDefEqProofs only [pick_nil, pick_cons, look_nil, look_cons, dropB_nil, dropB_cons, inD_nil, inD_cons, inE_nil, inE_cons, or_t_l, or_f_l, Nat.reduceBEq, Nat.reduceDiv, Nat.reduceAdd, beq_self_eq_true, Bool.false_eq_true, Bool.or_false, ↓reduceIte, Nat.reduceEqDiff, List.cons_append, List.nil_append]
    simp -dsimp -implicitDefEqProofs only [go_sem, ↓reduceIte, Nat.reduceEqDiff, Nat.reduceLT, Nat.reduceAdd, Nat.reduceMul, Nat.reduceLeDiff, Nat.le_refl, Int.natCast_zero, Int.toNat_natCast, Int.reduceToNat, c11]
    ((repeat' (with_reducible refine And.intro ?_ ?_)); all_goals try (first | omega | (refine ⟨?_, ?_⟩ <;> omega) | (exact rfl)))
    all_goals first | (rw [t1]; done) | (rw [t2]; done) | (rw [t3]; done) | (simp; done) | trace_state
end Go.Vc


/-
  Contracts: hulls, the locks of a system, false openings (the program's).
-/
set_option linter.unusedVariables false
set_option linter.unusedSimpArgs false
set_option linter.unnecessarySimpa false
namespace Go.Vc
open Go.Proofs
set_option maxRecDepth 100000
set_option maxHeartbeats 4000000
theorem c_opens (l : List (List Int)) (c : List Int) (h0 : c.length ≤ l.length) (h1 : l.length ≤ 1048576) (h2 : ∀ x ∈ l, x.length ≤ 1048576) : Fn Tryz.prog 140 [eLk l, eIs c] true (· = eB (opensL l c)) := by
  refine Fn.of_vcN 23 [.tmp 4] Tryz.func140 rfl rfl rfl rfl rfl (of_decide_eq_true rfl) ?_
  simp -dsimp -implicitDefEqProofs only [go_sem, ↓reduceIte, Nat.reduceEqDiff, Nat.reduceLT, Nat.reduceAdd, Nat.reduceMul, Nat.reduceLeDiff, Nat.le_refl, Int.natCast_zero, Int.toNat_natCast, Int.reduceToNat]
  refine Later.up [2, 7, 8] [20] [] c.length (fun i => ((List.range i).all fun i => has (l.getD i []) (c.getD i 0)) = true) (fun i => [(9, eI i)]) (fun _ => []) rfl ?_ rfl (fun i hi hI => ?_) (fun hI => ?_)
  · simp -dsimp -implicitDefEqProofs only [go_sem, ↓reduceIte, Nat.reduceEqDiff, Nat.reduceLT, Nat.reduceAdd, Nat.reduceMul, Nat.reduceLeDiff, Nat.le_refl, Int.natCast_zero, Int.toNat_natCast, Int.reduceToNat]
  · have gi := get_some (show i < l.length by omega)
    have gc := get_some hi
    have li := lt_len hi
    have hp : has (l.getD i []) (c.getD i 0) = has l[i] c[i] := by simp [List.getD_eq_getElem?_getD, hi, show i < l.length by omega]
    have hq := c_Contains l[i] c[i] (h2 _ (List.getElem_mem _))
    have no : has l[i] c[i] = false → opensL l c = false := fun h => range_all_no hi (by rw [hp]; exact h)
    have yes : has l[i] c[i] = true → ((List.range (i + 1)).all fun i => has (l.getD i []) (c.getD i 0)) = true := fun h => by rw [range_all_succ, hI, hp, h]; rfl
    clear hp hI
    generalize l[i] = x at *
    generalize c[i] = z at *
    simp -dsimp -implicitDefEqProofs only [pick_nil, pick_cons, look_nil, look_cons, dropB_nil, dropB_cons, inD_nil, inD_cons, inE_nil, inE_cons, or_t_l, or_f_l, Nat.reduceBEq, Nat.reduceDiv, Nat.reduceAdd, beq_self_eq_true, Bool.false_eq_true, Bool.or_false, ↓reduceIte, Nat.reduceEqDiff, List.cons_append, List.nil_append]
    simp -dsimp -implicitDefEqProofs only [go_sem, ↓reduceIte, Nat.reduceEqDiff, Nat.reduceLT, Nat.reduceAdd, Nat.reduceMul, Nat.reduceLeDiff, Nat.le_refl, Int.natCast_zero, Int.toNat_natCast, Int.reduceToNat, gi, gc, li]
    ((repeat' (with_reducible refine And.intro ?_ ?_)); all_goals try (first | omega | (refine ⟨?_, ?_⟩ <;> omega) | (exact rfl)))
    refine sCallT_one hq ?_
    rcases hb : has x z with _ | _
    · rw [no hb]
      simp -dsimp -implicitDefEqProofs only [go_sem, ↓reduceIte, Nat.reduceEqDiff, Nat.reduceLT, Nat.reduceAdd, Nat.reduceMul, Nat.reduceLeDiff, Nat.le_refl, Int.natCast_zero, Int.toNat_natCast, Int.reduceToNat]
    · simp -dsimp -implicitDefEqProofs only [go_sem, ↓reduceIte, Nat.reduceEqDiff, Nat.reduceLT, Nat.reduceAdd, Nat.reduceMul, Nat.reduceLeDiff, Nat.le_refl, Int.natCast_zero, Int.toNat_natCast, Int.reduceToNat]
      refine ⟨⟨by omega, by omega⟩, ?_, rfl⟩
      rw [← List.range_succ]
      exact yes hb
  · simp -dsimp -implicitDefEqProofs only [pick_nil, pick_cons, look_nil, look_cons, dropB_nil, dropB_cons, inD_nil, inD_cons, inE_nil, inE_cons, or_t_l, or_f_l, Nat.reduceBEq, Nat.reduceDiv, Nat.reduceAdd, beq_self_eq_true, Bool.false_eq_true, Bool.or_false, ↓reduceIte, Nat.reduceEqDiff, List.cons_append, List.nil_append]
    simp -dsimp -implicitDefEqProofs only [go_sem, ↓reduceIte, Nat.reduceEqDiff, Nat.reduceLT, Nat.reduceAdd, Nat.reduceMul, Nat.reduceLeDiff, Nat.le_refl, Int.natCast_zero, Int.toNat_natCast, Int.reduceToNat, nlt_len]
    rw [show opensL l c = true from hI]
theorem row_sum (k : List (List Int)) (i : Nat) : ∀ n, n ≤ k.length → ((k.take n).map fun x => x.getD i 0).length = n := fun n h => by simp [h]
theorem c_hullOf (m : MkM) (keys : List (List Int)) (hm : isMk m = true) (h0 : keys.length ≤ 1048576) (hk3 : ∀ k ∈ keys, (k.length : Int) = m.chambers ∧ ∀ x ∈ k, 0 ≤ x ∧ x < m.depths) :
    Fn Tryz.prog 77 [eMk m, eIss keys] false (· = eLk (hull m keys m.chambers.toNat)) := by
  have ⟨⟨n1, n2⟩, n3, n4⟩ := isMk_num hm
  refine Fn.of_vcS 42 [.cell 4 65] Tryz.func77 rfl rfl rfl rfl rfl (of_decide_eq_true rfl) ?_
  simp -dsimp -implicitDefEqProofs only [go_sem, ↓reduceIte, Nat.reduceEqDiff, Nat.reduceLT, Nat.reduceAdd, Nat.reduceMul, Nat.reduceLeDiff, Nat.le_refl, Int.natCast_zero, Int.toNat_natCast, Int.reduceToNat]
  refine Later.up [1, 4, 5, 12] [16, 18, 28, 29, 32, 36, 37, 38] [5, 38] m.chambers.toNat (fun _ => True) (fun i => [(13, eI i)]) (fun i => [(5, .box 0 [.ref 38 0 0 i]), (38, .row 0 ⟨1, false⟩ (i == 0) ((hull m keys i).map eIs))]) trivial ?_ rfl (fun i hi _ => ?_) (fun _ => ?_)
  · simp -dsimp -implicitDefEqProofs only [go_sem, ↓reduceIte, Nat.reduceEqDiff, Nat.reduceLT, Nat.reduceAdd, Nat.reduceMul, Nat.reduceLeDiff, Nat.le_refl, Int.natCast_zero, Int.toNat_natCast, Int.reduceToNat, hull_zero]
  · have hlt : decide ((i : Int) < m.chambers) = true := decide_eq_true (by omega)
    have hhl := hull_len m keys i
    have hset := hullSet_eq (m := m) (keys := keys) (i := i) (fun k hk => by
      obtain ⟨h1, h2⟩ := hk3 k hk
      have hil : i < k.length := by omega
      rw [show k.getD i 0 = k[i] by simp [List.getD_eq_getElem?_getD, hil]]
      exact h2 _ (List.getElem_mem hil))
    rw [hull_succ, ← hset]
    clear hset
    generalize hull m keys i = H at *
    simp -dsimp -implicitDefEqProofs only [pick_nil, pick_cons, look_nil, look_cons, dropB_nil, dropB_cons, inD_nil, inD_cons, inE_nil, inE_cons, or_t_l, or_f_l, Nat.reduceBEq, Nat.reduceDiv, Nat.reduceAdd, beq_self_eq_true, Bool.false_eq_true, Bool.or_false, ↓reduceIte, Nat.reduceEqDiff, List.cons_append, List.nil_append]
    simp -dsimp -implicitDefEqProofs only [go_sem, ↓reduceIte, Nat.reduceEqDiff, Nat.reduceLT, Nat.reduceAdd, Nat.reduceMul, Nat.reduceLeDiff, Nat.le_refl, Int.natCast_zero, Int.toNat_natCast, Int.reduceToNat, hlt]
    refine Later.up [1, 4, 5, 6, 12, 13, 17, 18] [28, 29] [16] keys.length (fun _ => True) (fun k => [(19, eI k), (7, .ref 16 0 0 k)]) (fun k => [(16, .row 0 ⟨1, false⟩ true (((keys.take k).map fun x => x.getD i 0).map eI))]) trivial ?_ rfl (fun k hk' _ => ?_) (fun _ => ?_)
    · simp -dsimp -implicitDefEqProofs only [go_sem, ↓reduceIte, Nat.reduceEqDiff, Nat.reduceLT, Nat.reduceAdd, Nat.reduceMul, Nat.reduceLeDiff, Nat.le_refl, Int.natCast_zero, Int.toNat_natCast, Int.reduceToNat, List.take_zero, List.map_nil]
    · have hkl : i < keys[k].length := by have := (hk3 _ (List.getElem_mem hk')).1; omega
      have gk := get_some hk'
      have gi := get_some hkl
      have lk := lt_len hk'
      have hgd : keys[k].getD i 0 = keys[k][i] := by simp [List.getD_eq_getElem?_getD, hkl]
      have ht : (keys.take (k + 1)).map (fun x => x.getD i 0) = (keys.take k).map (fun x => x.getD i 0) ++ [keys[k][i]] := by
        rw [List.take_succ_eq_append_getElem hk', List.map_append, List.map_singleton, hgd]
      have hln := row_sum keys i k (by omega)
      rw [ht]
      clear ht hgd
      generalize (keys.take k).map (fun x => x.getD i 0) = F at *
      generalize keys[k] = x at *
      generalize x[i] = z at *
      have htk := take_map_all eI F k (by omega)
      simp -dsimp -implicitDefEqProofs only [pick_nil, pick_cons, look_nil, look_cons, dropB_nil, dropB_cons, inD_nil, inD_cons, inE_nil, inE_cons, or_t_l, or_f_l, Nat.reduceBEq, Nat.reduceDiv, Nat.reduceAdd, beq_self_eq_true, Bool.false_eq_true, Bool.or_false, ↓reduceIte, Nat.reduceEqDiff, List.cons_append, List.nil_append]
      simp -dsimp -implicitDefEqProofs only [go_sem, ↓reduceIte, Nat.reduceEqDiff, Nat.reduceLT, Nat.reduceAdd, Nat.reduceMul, Nat.reduceLeDiff, Nat.le_refl, Int.natCast_zero, Int.toNat_natCast, Int.reduceToNat, lk, gk, gi, htk]
      ((repeat' (with_reducible refine And.intro ?_ ?_)); all_goals try (first | omega | (refine ⟨?_, ?_⟩ <;> omega) | (exact rfl)))
      all_goals first | (simp; done) | trace_state
    · have hln := row_sum keys i keys.length (Nat.le_refl _)
      have hr : rowsL (keys.map fun k => k.getD i 0) = Lib.compact (((keys.take keys.length).map fun k => k.getD i 0).mergeSort fun x y => decide (x ≤ y)) := by rw [List.take_length, rowsL_eq]
      rw [hr]
      clear hr
      generalize (keys.take keys.length).map (fun x => x.getD i 0) = F at *
      simp -dsimp -implicitDefEqProofs only [pick_nil, pick_cons, look_nil, look_cons, dropB_nil, dropB_cons, inD_nil, inD_cons, inE_nil, inE_cons, or_t_l, or_f_l, Nat.reduceBEq, Nat.reduceDiv, Nat.reduceAdd, beq_self_eq_true, Bool.false_eq_true, Bool.or_false, ↓reduceIte, Nat.reduceEqDiff, List.cons_append, List.nil_append]
      simp -dsimp -implicitDefEqProofs only [go_sem, ↓reduceIte, Nat.reduceEqDiff, Nat.reduceLT, Nat.reduceAdd, Nat.reduceMul, Nat.reduceLeDiff, Nat.le_refl, Int.natCast_zero, Int.toNat_natCast, Int.reduceToNat, nlt_len]
      refine ⟨by omega, ?_⟩
      refine sCallT_io [16] ?_
      simp -dsimp -implicitDefEqProofs only [go_sem, ↓reduceIte, Nat.reduceEqDiff, Nat.reduceLT, Nat.reduceAdd, Nat.reduceMul, Nat.reduceLeDiff, Nat.le_refl, Int.natCast_zero, Int.toNat_natCast, Int.reduceToNat]
      rw [← hln]
      refine sCallM_one (c_SortI 0 F (by omega)) ?_
      simp -dsimp -implicitDefEqProofs only [go_sem, ↓reduceIte, Nat.reduceEqDiff, Nat.reduceLT, Nat.reduceAdd, Nat.reduceMul, Nat.reduceLeDiff, Nat.le_refl, Int.natCast_zero, Int.toNat_natCast, Int.reduceToNat]
      refine Later.draw mixed rfl ?_
      have hle : (F.mergeSort fun x y => decide (x ≤ y)).length = F.length := List.length_mergeSort _
      have hcl := compact_len (F.mergeSort fun x y => decide (x ≤ y))
      simp -dsimp -implicitDefEqProofs only [go_sem, ↓reduceIte, Nat.reduceEqDiff, Nat.reduceLT, Nat.reduceAdd, Nat.reduceMul, Nat.reduceLeDiff, Nat.le_refl, Int.natCast_zero, Int.toNat_natCast, Int.reduceToNat]
      refine ⟨by omega, ?_⟩
      refine s_CompactX (zs := F.mergeSort fun x y => decide (x ≤ y)) ?_ hle.symm (by omega) ?_
      · simp -dsimp -implicitDefEqProofs only [go_sem, ↓reduceIte, Nat.reduceEqDiff, Nat.reduceLT, Nat.reduceAdd, Nat.reduceMul, Nat.reduceLeDiff, Nat.le_refl, Int.natCast_zero, Int.toNat_natCast, Int.reduceToNat]
      generalize Lib.compact (F.mergeSort fun x y => decide (x ≤ y)) = C at *
      have e0 : (i + 1 == 0) = false := rfl
      have e2 : List.map eIs (H ++ [C]) = List.map eIs H ++ [eIs C] := by simp
      have htk := take_map_all eIs H i (by omega)
      have htC : List.take C.length (List.map eI (C ++ List.replicate ((F.mergeSort fun x y => decide (x ≤ y)).length - C.length) 0)) = List.map eI C := by rw [← List.map_take]; simp
      simp -dsimp -implicitDefEqProofs only [go_sem, ↓reduceIte, Nat.reduceEqDiff, Nat.reduceLT, Nat.reduceAdd, Nat.reduceMul, Nat.reduceLeDiff, Nat.le_refl, Int.natCast_zero, Int.toNat_natCast, Int.reduceToNat, htC]
      refine ⟨by omega, .inr ⟨by omega, by omega, (by cases i with | zero => exact .inr rfl | succ i => exact .inl rfl), by exact rfl, ⟨by omega, by omega⟩, rfl, ?_⟩⟩
      rw [e0, e2]
      simp -dsimp -implicitDefEqProofs only [go_sem, ↓reduceIte, Nat.reduceEqDiff, Nat.reduceLT, Nat.reduceAdd, Nat.reduceMul, Nat.reduceLeDiff, Nat.le_refl, Int.natCast_zero, Int.toNat_natCast, Int.reduceToNat, htk, htC]
  · have hlt : decide (((m.chambers.toNat : Nat) : Int) < m.chambers) = false := decide_eq_false (by omega)
    have hhl := hull_len m keys m.chambers.toNat
    generalize hull m keys m.chambers.toNat = H at *
    have htk := take_map_all eIs H m.chambers.toNat (by omega)
    simp -dsimp -implicitDefEqProofs only [pick_nil, pick_cons, look_nil, look_cons, dropB_nil, dropB_cons, inD_nil, inD_cons, inE_nil, inE_cons, or_t_l, or_f_l, Nat.reduceBEq, Nat.reduceDiv, Nat.reduceAdd, beq_self_eq_true, Bool.false_eq_true, Bool.or_false, ↓reduceIte, Nat.reduceEqDiff, List.cons_append, List.nil_append]
    simp -dsimp -implicitDefEqProofs only [go_sem, ↓reduceIte, Nat.reduceEqDiff, Nat.reduceLT, Nat.reduceAdd, Nat.reduceMul, Nat.reduceLeDiff, Nat.le_refl, Int.natCast_zero, Int.toNat_natCast, Int.reduceToNat, hlt]
    ((repeat' (with_reducible refine And.intro ?_ ?_)); all_goals try (first | omega | (refine ⟨?_, ?_⟩ <;> omega) | (exact rfl)))
    all_goals rw [htk]

/- the rows that open a door, of those that are cut -/
def cutOn (cuts : List (List Int)) (rs : List Int) : Nat → List (List Int)
  | 0 => []
  | j + 1 => if decide (rs.getD j 0 < (cuts.length : Int)) = true then cutOn cuts rs j ++ [cuts.getD (rs.getD j 0).toNat []] else cutOn cuts rs j
theorem cutOn_zero (cuts : List (List Int)) (rs : List Int) : cutOn cuts rs 0 = [] := rfl
theorem cutOn_succ (cuts : List (List Int)) (rs : List Int) (j : Nat) : cutOn cuts rs (j + 1) = if decide (rs.getD j 0 < (cuts.length : Int)) = true then cutOn cuts rs j ++ [cuts.getD (rs.getD j 0).toNat []] else cutOn cuts rs j := rfl
theorem cutOn_len (cuts : List (List Int)) (rs : List Int) : ∀ j, (cutOn cuts rs j).length ≤ j
  | 0 => Nat.le_refl _
  | j + 1 => by
    have := cutOn_len cuts rs j
    rw [cutOn_succ]; split
    · simp; omega
    · omega
theorem cutOn_app (cuts : List (List Int)) (rs : List Int) (x : Int) : cutOn cuts (rs ++ [x]) (rs ++ [x]).length = if decide (x < (cuts.length : Int)) = true then cutOn cuts rs rs.length ++ [cuts.getD x.toNat []] else cutOn cuts rs rs.length := by
  have key : ∀ j, j ≤ rs.length → cutOn cuts (rs ++ [x]) j = cutOn cuts rs j := by
    intro j
    induction j with
    | zero => intro _; rfl
    | succ j ih =>
      intro hj
      have : (rs ++ [x]).getD j 0 = rs.getD j 0 := by simp [List.getD_eq_getElem?_getD, List.getElem?_append_left (show j < rs.length by omega)]
      rw [cutOn_succ, cutOn_succ, ih (by omega), this]
  have e : (rs ++ [x]).length = rs.length + 1 := by simp
  have hx : (rs ++ [x]).getD rs.length 0 = x := by simp [List.getD_eq_getElem?_getD]
  rw [e, cutOn_succ, key _ (Nat.le_refl _), hx]
theorem cutOn_rows (t cuts : List (List Int)) (k : Nat) : ∀ n, n ≤ t.length → cutOn cuts (flt (fun i => (t.getD i []).getD k 0 == 1) n) (flt (fun i => (t.getD i []).getD k 0 == 1) n).length = onTo t cuts k (min n cuts.length)
  | 0, _ => by rw [flt_zero, Nat.zero_min]; rfl
  | n + 1, hn => by
    have ih := cutOn_rows t cuts k n (by omega)
    rw [flt_succ]
    split
    · rename_i h
      rw [cutOn_app, ih]
      by_cases hc : n < cuts.length
      · rw [if_pos (decide_eq_true (by omega)), show min (n + 1) cuts.length = n + 1 by omega, show min n cuts.length = n by omega, onTo_succ, if_pos h]; rfl
      · rw [if_neg (by simp; omega), show min (n + 1) cuts.length = min n cuts.length by omega]
    · rename_i h
      rw [ih]
      by_cases hc : n < cuts.length
      · rw [show min (n + 1) cuts.length = n + 1 by omega, show min n cuts.length = n by omega, onTo_succ, if_neg h]
      · rw [show min (n + 1) cuts.length = min n cuts.length by omega]
theorem cutOn_all {t cuts : List (List Int)} (h : cuts.length ≤ t.length) (k : Nat) : cutOn cuts (rowsOn t k) (rowsOn t k).length = onTo t cuts k cuts.length := by
  have := cutOn_rows t cuts k t.length (Nat.le_refl _)
  rwa [show min t.length cuts.length = cuts.length by omega] at this
theorem rowsOn_get {t : List (List Int)} {k j : Nat} (h : j < (rowsOn t k).length) : 0 ≤ (rowsOn t k)[j] := by
  have h1 : (rowsOn t k)[j] ∈ rowsOn t k := List.getElem_mem h
  obtain ⟨i, _, e, _⟩ := flt_mem (p := fun i => (t.getD i []).getD k 0 == 1) (i := t.length) h1
  omega
theorem rowsOn_len (t : List (List Int)) (k : Nat) : (rowsOn t k).length ≤ t.length := flt_len _ _
theorem c_partLocks (m : MkM) (t cuts : List (List Int)) (hm : isMk m = true) (h0 : t.length ≤ 1000) (h1 : cuts.length ≤ t.length) (h2 : 0 < t.length) (hk : ∀ i (hi : i < t.length), t[i].length = (t.getD 0 []).length) (hd : (t.getD 0 []).length ≤ 1000) (hc : ∀ x ∈ cuts, (x.length : Int) = m.chambers ∧ ∀ y ∈ x, 0 ≤ y ∧ y < m.depths) :
    Fn Tryz.prog 44 [eSy m t, eIss cuts] false (· = eLks (locksTo m t cuts (t.getD 0 []).length)) := by
  refine Fn.of_vcS 49 [.tmp 4] Tryz.func44 rfl rfl rfl rfl rfl (of_decide_eq_true rfl) ?_
  have g0 := get_some h2
  have hg : t.getD 0 [] = t[0] := by simp [List.getD_eq_getElem?_getD, h2]
  rw [hg] at hk hd ⊢
  simp -dsimp -implicitDefEqProofs only [go_sem, ↓reduceIte, Nat.reduceEqDiff, Nat.reduceLT, Nat.reduceAdd, Nat.reduceMul, Nat.reduceLeDiff, Nat.le_refl, Int.natCast_zero, Int.toNat_natCast, Int.reduceToNat, g0]
  refine ⟨by omega, ?_⟩
  refine Later.up [1, 2, 15] [19, 22, 23, 30, 37, 38, 44, 45, 46] [10] t[0].length (fun _ => True) (fun i => [(16, eI i), (5, .ref 10 0 0 i)]) (fun i => [(10, .row 0 ⟨1, true⟩ (i == 0) ((locksTo m t cuts i).map eLk))]) trivial ?_ rfl (fun i hi _ => ?_) (fun _ => ?_)
  · simp -dsimp -implicitDefEqProofs only [go_sem, ↓reduceIte, Nat.reduceEqDiff, Nat.reduceLT, Nat.reduceAdd, Nat.reduceMul, Nat.reduceLeDiff, Nat.le_refl, Int.natCast_zero, Int.toNat_natCast, Int.reduceToNat, locksTo_zero]
  · have hrf := c_rowsFor m t i (by omega) (fun j hj => by rw [hk j hj]; exact hi)
    have hll := locksTo_len m t cuts i
    have li := lt_len hi
    have hrl := rowsOn_len t i
    have hrg := fun j (h : j < (rowsOn t i).length) => rowsOn_get h
    have hon := onTo_len t cuts i cuts.length
    have hmm : ∀ x ∈ onTo t cuts i cuts.length, (x.length : Int) = m.chambers ∧ ∀ y ∈ x, 0 ≤ y ∧ y < m.depths := fun x hx => hc x (onTo_mem (Nat.le_refl _) x hx)
    have hq := c_hullOf m (onTo t cuts i cuts.length) hm (by omega) hmm
    have hall := cutOn_all h1 i
    rw [locksTo_succ]
    unfold lockAt
    generalize locksTo m t cuts i = F at *
    have htk := take_map_all eLk F i (by omega)
    have e0 : (i + 1 == 0) = false := rfl
    have e2 : ∀ L : List (List Int), List.map eLk (F ++ [L]) = List.map eLk F ++ [eLk L] := fun L => by simp
    generalize onTo t cuts i cuts.length = K at *
    simp -dsimp -implicitDefEqProofs only [pick_nil, pick_cons, look_nil, look_cons, dropB_nil, dropB_cons, inD_nil, inD_cons, inE_nil, inE_cons, or_t_l, or_f_l, Nat.reduceBEq, Nat.reduceDiv, Nat.reduceAdd, beq_self_eq_true, Bool.false_eq_true, Bool.or_false, ↓reduceIte, Nat.reduceEqDiff, List.cons_append, List.nil_append]
    simp -dsimp -implicitDefEqProofs only [go_sem, ↓reduceIte, Nat.reduceEqDiff, Nat.reduceLT, Nat.reduceAdd, Nat.reduceMul, Nat.reduceLeDiff, Nat.le_refl, Int.natCast_zero, Int.toNat_natCast, Int.reduceToNat, li]
    refine sCallT_one hrf ?_
    clear hrf
    generalize rowsOn t i = R at *
    simp -dsimp -implicitDefEqProofs only [go_sem, ↓reduceIte, Nat.reduceEqDiff, Nat.reduceLT, Nat.reduceAdd, Nat.reduceMul, Nat.reduceLeDiff, Nat.le_refl, Int.natCast_zero, Int.toNat_natCast, Int.reduceToNat]
    refine Later.up [1, 2, 5, 15, 16, 22, 23] [30, 37, 38] [19] R.length (fun _ => True) (fun j => [(24, eI j), (7, .ref 19 0 0 (cutOn cuts R j).length)]) (fun j => [(19, .row 0 ⟨1, false⟩ (cutOn cuts R j).isEmpty ((cutOn cuts R j).map eIs))]) trivial ?_ rfl (fun j hj _ => ?_) (fun _ => ?_)
    · simp -dsimp -implicitDefEqProofs only [go_sem, ↓reduceIte, Nat.reduceEqDiff, Nat.reduceLT, Nat.reduceAdd, Nat.reduceMul, Nat.reduceLeDiff, Nat.le_refl, Int.natCast_zero, Int.toNat_natCast, Int.reduceToNat, cutOn_zero, List.isEmpty_nil]
    · have lj := lt_len hj
      have gj := get_some hj
      have hgd : R.getD j 0 = R[j] := by simp [List.getD_eq_getElem?_getD, hj]
      have hcl := cutOn_len cuts R j
      have hr0 := hrg j hj
      rw [cutOn_succ, hgd]
      generalize cutOn cuts R j = G at *
      generalize R[j] = z at *
      have htG := take_map_all eIs G G.length (Nat.le_refl _)
      simp -dsimp -implicitDefEqProofs only [pick_nil, pick_cons, look_nil, look_cons, dropB_nil, dropB_cons, inD_nil, inD_cons, inE_nil, inE_cons, or_t_l, or_f_l, Nat.reduceBEq, Nat.reduceDiv, Nat.reduceAdd, beq_self_eq_true, Bool.false_eq_true, Bool.or_false, ↓reduceIte, Nat.reduceEqDiff, List.cons_append, List.nil_append]
      rcases hz : decide (z < (cuts.length : Int)) with _ | _
      · simp -dsimp -implicitDefEqProofs only [go_sem, ↓reduceIte, Nat.reduceEqDiff, Nat.reduceLT, Nat.reduceAdd, Nat.reduceMul, Nat.reduceLeDiff, Nat.le_refl, Int.natCast_zero, Int.toNat_natCast, Int.reduceToNat, lj, gj, hz]
        ((repeat' (with_reducible refine And.intro ?_ ?_)); all_goals try (first | omega | (refine ⟨?_, ?_⟩ <;> omega) | (exact rfl)))
        all_goals trace_state
      · have hzl : z.toNat < cuts.length := by have := of_decide_eq_true hz; omega
        have gz := get_some hzl
        have hcd : cuts.getD z.toNat [] = cuts[z.toNat] := by simp [List.getD_eq_getElem?_getD, hzl]
        simp only [if_true]
        rw [hcd]
        generalize cuts[z.toNat] = c at *
        have f0 : (G ++ [c]).isEmpty = false := by simp
        have f2 : List.map eIs (G ++ [c]) = List.map eIs G ++ [eIs c] := by simp
        simp -dsimp -implicitDefEqProofs only [go_sem, ↓reduceIte, Nat.reduceEqDiff, Nat.reduceLT, Nat.reduceAdd, Nat.reduceMul, Nat.reduceLeDiff, Nat.le_refl, Int.natCast_zero, Int.toNat_natCast, Int.reduceToNat, lj, gj, gz, hz]
        refine ⟨⟨by omega, by omega⟩, ⟨by omega, by omega⟩, ?_⟩
        refine .inr ⟨by omega, (by cases G with | nil => exact .inr rfl | cons => exact .inl rfl), ⟨by omega, by omega⟩, ?_⟩
        rw [f0, f2]
        simp -dsimp -implicitDefEqProofs only [go_sem, ↓reduceIte, Nat.reduceEqDiff, Nat.reduceLT, Nat.reduceAdd, Nat.reduceMul, Nat.reduceLeDiff, Nat.le_refl, Int.natCast_zero, Int.toNat_natCast, Int.reduceToNat, htG]
        exact rfl
    · rw [hall]
      have htK := take_map_all eIs K K.length (Nat.le_refl _)
      simp -dsimp -implicitDefEqProofs only [pick_nil, pick_cons, look_nil, look_cons, dropB_nil, dropB_cons, inD_nil, inD_cons, inE_nil, inE_cons, or_t_l, or_f_l, Nat.reduceBEq, Nat.reduceDiv, Nat.reduceAdd, beq_self_eq_true, Bool.false_eq_true, Bool.or_false, ↓reduceIte, Nat.reduceEqDiff, List.cons_append, List.nil_append]
      simp -dsimp -implicitDefEqProofs only [go_sem, ↓reduceIte, Nat.reduceEqDiff, Nat.reduceLT, Nat.reduceAdd, Nat.reduceMul, Nat.reduceLeDiff, Nat.le_refl, Int.natCast_zero, Int.toNat_natCast, Int.reduceToNat, nlt_len]
      refine sCallT_frz 19 0 ⟨1, false⟩ K.isEmpty (List.map eIs K) hq (by decide) ?_ ?_ fun r hr => ?_
      · simp -dsimp -implicitDefEqProofs only [go_sem, ↓reduceIte, Nat.reduceEqDiff, Nat.reduceLT, Nat.reduceAdd, Nat.reduceMul, Nat.reduceLeDiff, Nat.le_refl, Int.natCast_zero, Int.toNat_natCast, Int.reduceToNat]
      · refine frzOk_no ?_ rfl ?_
        · simp -dsimp -implicitDefEqProofs only [go_sem, ↓reduceIte, Nat.reduceEqDiff, Nat.reduceLT, Nat.reduceAdd, Nat.reduceMul, Nat.reduceLeDiff, Nat.le_refl, Int.natCast_zero, Int.toNat_natCast, Int.reduceToNat]
        · have h := frzOk_ref (l := 19) (v := 0) (sh := ⟨1, false⟩) (ys := List.map eIs K) (xs := []) (r := []) 0 K.length (by simp) trivial
          rw [List.drop_zero, htK] at h
          exact h
      · subst hr
        generalize hull m K m.chambers.toNat = L at *
        simp -dsimp -implicitDefEqProofs only [go_sem, ↓reduceIte, Nat.reduceEqDiff, Nat.reduceLT, Nat.reduceAdd, Nat.reduceMul, Nat.reduceLeDiff, Nat.le_refl, Int.natCast_zero, Int.toNat_natCast, Int.reduceToNat]
        refine .inr ⟨by omega, by omega, (by cases i with | zero => exact .inr rfl | succ i => exact .inl rfl), ⟨by omega, by omega⟩, rfl, ?_⟩
        rw [e0, e2]
        simp -dsimp -implicitDefEqProofs only [go_sem, ↓reduceIte, Nat.reduceEqDiff, Nat.reduceLT, Nat.reduceAdd, Nat.reduceMul, Nat.reduceLeDiff, Nat.le_refl, Int.natCast_zero, Int.toNat_natCast, Int.reduceToNat, htk]
  · have hll := locksTo_len m t cuts t[0].length
    generalize locksTo m t cuts t[0].length = F at *
    have htk := take_map_all eLk F t[0].length (by omega)
    simp -dsimp -implicitDefEqProofs only [pick_nil, pick_cons, look_nil, look_cons, dropB_nil, dropB_cons, inD_nil, inD_cons, inE_nil, inE_cons, or_t_l, or_f_l, Nat.reduceBEq, Nat.reduceDiv, Nat.reduceAdd, beq_self_eq_true, Bool.false_eq_true, Bool.or_false, ↓reduceIte, Nat.reduceEqDiff, List.cons_append, List.nil_append]
    simp -dsimp -implicitDefEqProofs only [go_sem, ↓reduceIte, Nat.reduceEqDiff, Nat.reduceLT, Nat.reduceAdd, Nat.reduceMul, Nat.reduceLeDiff, Nat.le_refl, Int.natCast_zero, Int.toNat_natCast, Int.reduceToNat, nlt_len]
    ((repeat' (with_reducible refine And.intro ?_ ?_)); all_goals try (first | omega | (refine ⟨?_, ?_⟩ <;> omega) | (exact rfl)))
    all_goals rw [htk]
theorem c_partFaults (m : MkM) (t cuts : List (List Int)) (hm : isMk m = true) (h0 : t.length ≤ 1000) (h1 : cuts.length ≤ t.length) (h2 : 0 < t.length) (hk : ∀ i (hi : i < t.length), t[i].length = (t.getD 0 []).length) (hd : (t.getD 0 []).length ≤ 1000) (hc : ∀ x ∈ cuts, (x.length : Int) = m.chambers ∧ ∀ y ∈ x, 0 ≤ y ∧ y < m.depths) :
    Fn Tryz.prog 118 [eSy m t, eIss cuts] false (· = eIss (falses m t cuts)) := by
  have ⟨⟨n1, n2⟩, n3, n4⟩ := isMk_num hm
  refine Fn.of_vcS 52 [.tmp 4] Tryz.func118 rfl rfl rfl rfl rfl (of_decide_eq_true rfl) ?_
  have hq := c_partLocks m t cuts hm h0 h1 h2 hk hd hc
  simp -dsimp -implicitDefEqProofs only [go_sem, ↓reduceIte, Nat.reduceEqDiff, Nat.reduceLT, Nat.reduceAdd, Nat.reduceMul, Nat.reduceLeDiff, Nat.le_refl, Int.natCast_zero, Int.toNat_natCast, Int.reduceToNat]
  (refine sCallS_one (hq) (by simp [noLabs, labs, labsL, isClo]) ?_)
  clear hq
  simp -dsimp -implicitDefEqProofs only [go_sem, ↓reduceIte, Nat.reduceEqDiff, Nat.reduceLT, Nat.reduceAdd, Nat.reduceMul, Nat.reduceLeDiff, Nat.le_refl, Int.natCast_zero, Int.toNat_natCast, Int.reduceToNat]
  have hll := locksTo_len m t cuts (t.getD 0 []).length
  refine Later.up [2, 6, 15, 16] [10, 23, 41, 46, 47, 48] [11] cuts.length (fun _ => True) (fun i => [(17, eI i), (5, .ref 11 0 0 (fprTo m t cuts i).length)]) (fun i => [(11, .row 0 ⟨1, false⟩ (fprTo m t cuts i).isEmpty ((fprTo m t cuts i).map eIs))]) trivial ?_ rfl (fun i hi _ => ?_) (fun _ => ?_)
  · simp -dsimp -implicitDefEqProofs only [go_sem, ↓reduceIte, Nat.reduceEqDiff, Nat.reduceLT, Nat.reduceAdd, Nat.reduceMul, Nat.reduceLeDiff, Nat.le_refl, Int.natCast_zero, Int.toNat_natCast, Int.reduceToNat, fprTo_zero, List.isEmpty_nil]
  · have hfl := fprTo_len m t cuts i
    have li := lt_len hi
    have gc := get_some hi
    have hmul : i * (t.getD 0 []).length ≤ 1000 * 1000 := Nat.mul_le_mul (by omega) hd
    rw [fprTo_succ]
    generalize fprTo m t cuts i = H at *
    simp -dsimp -implicitDefEqProofs only [pick_nil, pick_cons, look_nil, look_cons, dropB_nil, dropB_cons, inD_nil, inD_cons, inE_nil, inE_cons, or_t_l, or_f_l, Nat.reduceBEq, Nat.reduceDiv, Nat.reduceAdd, beq_self_eq_true, Bool.false_eq_true, Bool.or_false, ↓reduceIte, Nat.reduceEqDiff, List.cons_append, List.nil_append]
    simp -dsimp -implicitDefEqProofs only [go_sem, ↓reduceIte, Nat.reduceEqDiff, Nat.reduceLT, Nat.reduceAdd, Nat.reduceMul, Nat.reduceLeDiff, Nat.le_refl, Int.natCast_zero, Int.toNat_natCast, Int.reduceToNat, li, gc]
    refine ⟨by omega, ?_⟩
    refine Later.up [2, 6, 7, 8, 15, 16, 17, 22, 23] [10, 41, 46, 47, 48] [11] (t.getD 0 []).length (fun _ => True) (fun k => [(24, eI k), (5, .ref 11 0 0 (H ++ fpTo m t cuts i k).length)]) (fun k => [(11, .row 0 ⟨1, false⟩ (H ++ fpTo m t cuts i k).isEmpty ((H ++ fpTo m t cuts i k).map eIs))]) trivial ?_ rfl (fun k hk' _ => ?_) (fun _ => ?_)
    · simp -dsimp -implicitDefEqProofs only [go_sem, ↓reduceIte, Nat.reduceEqDiff, Nat.reduceLT, Nat.reduceAdd, Nat.reduceMul, Nat.reduceLeDiff, Nat.le_refl, Int.natCast_zero, Int.toNat_natCast, Int.reduceToNat, fpTo_zero, List.append_nil]
    · have hit : i < t.length := by omega
      have hki : k < t[i].length := by rw [hk i hit]; exact hk'
      have gi := get_some hit
      have gk := get_some hki
      have gl := locksTo_get m t cuts hk'
      have hp : (t.getD i []).getD k 0 = t[i][k] := by simp [List.getD_eq_getElem?_getD, hit, hki]
      have hcd : cuts.getD i [] = cuts[i] := by simp [List.getD_eq_getElem?_getD, hi]
      have hfk := fpTo_len m t cuts i k
      have hL := lockAt_len m t cuts k
      have hcl := (hc _ (List.getElem_mem hi)).1
      have hop := c_opens (lockAt m t cuts k) cuts[i] (by omega) (by omega) (fun x hx => by have := lockAt_sets m t cuts k x hx; omega)
      rw [fpTo_succ, hp, hcd]
      generalize fpTo m t cuts i k = F at *
      generalize lockAt m t cuts k = L at *
      generalize locksTo m t cuts (t.getD 0 []).length = LS at *
      have lk : decide ((k : Int) < (LS.length : Int)) = true := decide_eq_true (by omega)
      generalize t[i][k] = z at *
      generalize cuts[i] = c at *
      generalize hopb : opensL L c = ob at *
      have hG : (H ++ F).length ≤ 1001000 := by rw [List.length_append]; omega
      have e9 : ∀ x : List Int, H ++ (F ++ [x]) = (H ++ F) ++ [x] := fun x => by simp
      simp only [e9, apply_ite (fun l => H ++ l)]
      generalize H ++ F = G at *
      have htk := take_map_all eIs G G.length (Nat.le_refl _)
      have e0 : (G ++ [[(i : Int), (k : Int)]]).isEmpty = false := by simp
      have e2 : List.map eIs (G ++ [[(i : Int), (k : Int)]]) = List.map eIs G ++ [eIs [(i : Int), (k : Int)]] := by simp
      simp -dsimp -implicitDefEqProofs only [pick_nil, pick_cons, look_nil, look_cons, dropB_nil, dropB_cons, inD_nil, inD_cons, inE_nil, inE_cons, or_t_l, or_f_l, Nat.reduceBEq, Nat.reduceDiv, Nat.reduceAdd, beq_self_eq_true, Bool.false_eq_true, Bool.or_false, ↓reduceIte, Nat.reduceEqDiff, List.cons_append, List.nil_append]
      rcases hz : (z == 0) with _ | _
      · simp -dsimp -implicitDefEqProofs only [go_sem, ↓reduceIte, Nat.reduceEqDiff, Nat.reduceLT, Nat.reduceAdd, Nat.reduceMul, Nat.reduceLeDiff, Nat.le_refl, Int.natCast_zero, Int.toNat_natCast, Int.reduceToNat, gi, gk, gl, li, lk, hz]
        ((repeat' (with_reducible refine And.intro ?_ ?_)); all_goals try (first | omega | (refine ⟨?_, ?_⟩ <;> omega) | (exact rfl)))
        all_goals trace_state
      · simp -dsimp -implicitDefEqProofs only [go_sem, ↓reduceIte, Nat.reduceEqDiff, Nat.reduceLT, Nat.reduceAdd, Nat.reduceMul, Nat.reduceLeDiff, Nat.le_refl, Int.natCast_zero, Int.toNat_natCast, Int.reduceToNat, gi, gk, gc, gl, li, lk, hz]
        ((repeat' (with_reducible refine And.intro ?_ ?_)); all_goals try (first | omega | (refine ⟨?_, ?_⟩ <;> omega) | (exact rfl)))
        refine sCallT_one hop ?_
        cases ob with
        | false =>
          simp -dsimp -implicitDefEqProofs only [go_sem, ↓reduceIte, Nat.reduceEqDiff, Nat.reduceLT, Nat.reduceAdd, Nat.reduceMul, Nat.reduceLeDiff, Nat.le_refl, Int.natCast_zero, Int.toNat_natCast, Int.reduceToNat]
          ((repeat' (with_reducible refine And.intro ?_ ?_)); all_goals try (first | omega | (refine ⟨?_, ?_⟩ <;> omega) | (exact rfl)))
          all_goals trace_state
        | true =>
          simp -dsimp -implicitDefEqProofs only [go_sem, ↓reduceIte, Nat.reduceEqDiff, Nat.reduceLT, Nat.reduceAdd, Nat.reduceMul, Nat.reduceLeDiff, Nat.le_refl, Int.natCast_zero, Int.toNat_natCast, Int.reduceToNat]
          refine .inr ⟨by omega, (by cases G with | nil => exact .inr rfl | cons => exact .inl rfl), ⟨by omega, by omega⟩, rfl, ?_⟩
          rw [e0, e2]
          simp -dsimp -implicitDefEqProofs only [go_sem, ↓reduceIte, Nat.reduceEqDiff, Nat.reduceLT, Nat.reduceAdd, Nat.reduceMul, Nat.reduceLeDiff, Nat.le_refl, Int.natCast_zero, Int.toNat_natCast, Int.reduceToNat, htk]
          all_goals first | exact rfl | trace_state
    · simp -dsimp -implicitDefEqProofs only [pick_nil, pick_cons, look_nil, look_cons, dropB_nil, dropB_cons, inD_nil, inD_cons, inE_nil, inE_cons, or_t_l, or_f_l, Nat.reduceBEq, Nat.reduceDiv, Nat.reduceAdd, beq_self_eq_true, Bool.false_eq_true, Bool.or_false, ↓reduceIte, Nat.reduceEqDiff, List.cons_append, List.nil_append]
      simp -dsimp -implicitDefEqProofs only [go_sem, ↓reduceIte, Nat.reduceEqDiff, Nat.reduceLT, Nat.reduceAdd, Nat.reduceMul, Nat.reduceLeDiff, Nat.le_refl, Int.natCast_zero, Int.toNat_natCast, Int.reduceToNat, hll, nlt_len]
      ((repeat' (with_reducible refine And.intro ?_ ?_)); all_goals try (first | omega | (refine ⟨?_, ?_⟩ <;> omega) | (exact rfl)))
      all_goals trace_state
  · have hfl := fprTo_len m t cuts cuts.length
    unfold falses
    generalize fprTo m t cuts cuts.length = F at *
    have htk := take_map_all eIs F F.length (Nat.le_refl _)
    simp -dsimp -implicitDefEqProofs only [pick_nil, pick_cons, look_nil, look_cons, dropB_nil, dropB_cons, inD_nil, inD_cons, inE_nil, inE_cons, or_t_l, or_f_l, Nat.reduceBEq, Nat.reduceDiv, Nat.reduceAdd, beq_self_eq_true, Bool.false_eq_true, Bool.or_false, ↓reduceIte, Nat.reduceEqDiff, List.cons_append, List.nil_append]
    simp -dsimp -implicitDefEqProofs only [go_sem, ↓reduceIte, Nat.reduceEqDiff, Nat.reduceLT, Nat.reduceAdd, Nat.reduceMul, Nat.reduceLeDiff, Nat.le_refl, Int.natCast_zero, Int.toNat_natCast, Int.reduceToNat, nlt_len]
    ((repeat' (with_reducible refine And.intro ?_ ?_)); all_goals try (first | omega | (refine ⟨?_, ?_⟩ <;> omega) | (exact rfl)))
    all_goals rw [htk]
end Go.Vc


/-
  All keys of a maker, in order: what visits them and what counts them, in plain Lean.
-/
set_option linter.unusedVariables false
set_option linter.unusedSimpArgs false
set_option linter.unnecessarySimpa false
namespace Go.Vc
open Go.Proofs
set_option maxRecDepth 100000
structure KS (σ : Type) where
  ver : Nat
  zs : List Int
  s : σ
/-- whether cuts may begin a key -/
def okTo (m : MkM) (c : List Int) : Bool := (List.range c.length).all fun i => decide ((runAt c i : Int) ≤ m.same) && stepAt m c i
theorem fault_out {m : MkM} {c : List Int} (h : fault m c = 0) : (c.length : Int) = m.chambers ∧ (∀ x ∈ c, 0 ≤ x ∧ x < m.depths) ∧ okTo m c = true ∧ ¬ (kindsTo c c.length : Int) < m.least := by
  unfold fault at h
  split at h
  · cases h
  · rename_i h1
    split at h
    · cases h
    · rename_i h2
      split at h
      · cases h
      · rename_i h3
        split at h
        · cases h
        · rename_i h4
          split at h
          · cases h
          · rename_i h5
            refine ⟨by omega, fun x hx => ?_, ?_, h5⟩
            · have := List.all_eq_true.1 (by simpa using h2) x hx
              simp [isIn] at this; omega
            · unfold okTo
              rw [List.all_eq_true]
              intro i hi
              have a3 := List.all_eq_true.1 (by simpa using h3) i hi
              have h4' : ((List.range c.length).all fun i => decide ((runAt c i : Int) ≤ m.same)) = true := by
                cases hh : ((List.range c.length).all fun i => decide ((runAt c i : Int) ≤ m.same)) with
                | true => rfl
                | false => exact absurd hh h4
              have a4 := List.all_eq_true.1 h4' i hi
              simp only [a3, a4, Bool.and_self]
end Go.Vc


/-
  Contracts: designs of systems.
-/
set_option linter.unusedVariables false
set_option linter.unusedSimpArgs false
set_option linter.unnecessarySimpa false
namespace Go.Vc
open Go.Proofs
set_option maxRecDepth 100000
set_option maxHeartbeats 4000000
theorem key1_out {m : MkM} {c : List Int} (h : key1 m c = true) : (c.length : Int) = m.chambers ∧ ∀ y ∈ c, 0 ≤ y ∧ y < m.depths := by
  obtain ⟨h1, h2, _⟩ := fault_out (beq_iff_eq.1 h)
  exact ⟨h1, h2⟩
theorem isCutsOf_out {m : MkM} {t cuts : List (List Int)} (h : isCutsOf m t cuts = true) : cuts.length = t.length ∧ ∀ x ∈ cuts, key1 m x = true := by
  simp only [isCutsOf, Bool.and_eq_true, beq_iff_eq, List.all_eq_true] at h
  exact h
theorem isSy_mk {m : MkM} {t : List (List Int)} (h : isSy m t = true) : isMk m = true := by
  simp only [isSy, Bool.and_eq_true] at h; exact h.1.1
theorem falses_len0 (m : MkM) (t cuts : List (List Int)) : (((falses m t cuts).length : Int) == 0) = (falses m t cuts).isEmpty := by
  cases falses m t cuts with
  | nil => rfl
  | cons x r => simp; omega
theorem isDes_out {m : MkM} {t cuts : List (List Int)} (h : isDes m t cuts = true) : isSy m t = true ∧ isCutsOf m t cuts = true := by
  simp only [isDes, Bool.and_eq_true] at h; exact h.1
theorem c_l15Cuts (m : MkM) (t cuts : List (List Int)) (h : t.length ≤ 1048576) (h2 : ∀ x ∈ t, x.length ≤ 1048576) (h3 : cuts.length ≤ 1048576) (h4 : ∀ x ∈ cuts, x.length ≤ 1048576) (hs : isSy m t = true) : Fn Tryz.prog 136 [eSy m t, eIss cuts] true (· = eB (isCutsOf m t cuts)) := by
  have hn := isSy_num hs
  have hq := c_l04Keys m cuts (isSy_mk hs) h3 h4
  have hlen : ((cuts.length : Int) == (t.length : Int)) = (cuts.length == t.length) := by rw [Bool.eq_iff_iff]; simp only [beq_iff_eq]; omega
  refine Fn.of_vcN 17 [.tmp 4] Tryz.func136 rfl rfl rfl rfl rfl (of_decide_eq_true rfl) ?_
  unfold isCutsOf
  rcases hl : (cuts.length == t.length) with _ | _
  · simp -dsimp -implicitDefEqProofs only [go_sem, ↓reduceIte, Nat.reduceEqDiff, Nat.reduceLT, Nat.reduceAdd, Nat.reduceMul, Nat.reduceLeDiff, Nat.le_refl, Int.natCast_zero, Int.toNat_natCast, Int.reduceToNat, hlen, hl]
    ((repeat' (with_reducible refine And.intro ?_ ?_)); all_goals try (first | omega | (refine ⟨?_, ?_⟩ <;> omega) | (exact rfl)))
    all_goals trace_state
  · have he := beq_iff_eq.1 hl
    rw [decide_eq_true (show _ by omega), Bool.and_true] at hq
    simp -dsimp -implicitDefEqProofs only [go_sem, ↓reduceIte, Nat.reduceEqDiff, Nat.reduceLT, Nat.reduceAdd, Nat.reduceMul, Nat.reduceLeDiff, Nat.le_refl, Int.natCast_zero, Int.toNat_natCast, Int.reduceToNat, hlen, hl]
    refine sCallT_one hq ?_
    simp -dsimp -implicitDefEqProofs only [go_sem, ↓reduceIte, Nat.reduceEqDiff, Nat.reduceLT, Nat.reduceAdd, Nat.reduceMul, Nat.reduceLeDiff, Nat.le_refl, Int.natCast_zero, Int.toNat_natCast, Int.reduceToNat]
    ((repeat' (with_reducible refine And.intro ?_ ?_)); all_goals try (first | omega | (refine ⟨?_, ?_⟩ <;> omega) | (exact rfl)))
    all_goals trace_state
theorem c_l15Code (m : MkM) (t cuts : List (List Int)) (h : t.length ≤ 1048576) (h2 : ∀ x ∈ t, x.length ≤ 1048576) (h3 : cuts.length ≤ 1048576) (h4 : ∀ x ∈ cuts, x.length ≤ 1048576) : Fn Tryz.prog 115 [eSy m t, eIss cuts] true (· = eI (cutsC m t cuts)) := by
  refine Fn.of_vcN 12 [.tmp 4] Tryz.func115 rfl rfl rfl rfl rfl (of_decide_eq_true rfl) ?_
  have hq := c_sIsSystem m t h h2
  unfold cutsC
  rcases hb : isSy m t with _ | _
  · rw [hb] at hq
    simp -dsimp -implicitDefEqProofs only [go_sem, ↓reduceIte, Nat.reduceEqDiff, Nat.reduceLT, Nat.reduceAdd, Nat.reduceMul, Nat.reduceLeDiff, Nat.le_refl, Int.natCast_zero, Int.toNat_natCast, Int.reduceToNat]
    refine sCallT_one hq ?_
    simp -dsimp -implicitDefEqProofs only [go_sem, ↓reduceIte, Nat.reduceEqDiff, Nat.reduceLT, Nat.reduceAdd, Nat.reduceMul, Nat.reduceLeDiff, Nat.le_refl, Int.natCast_zero, Int.toNat_natCast, Int.reduceToNat]
    ((repeat' (with_reducible refine And.intro ?_ ?_)); all_goals try (first | omega | (refine ⟨?_, ?_⟩ <;> omega) | (exact rfl)))
  · have hr := c_l15Cuts m t cuts h h2 h3 h4 hb
    rw [hb] at hq
    simp -dsimp -implicitDefEqProofs only [go_sem, ↓reduceIte, Nat.reduceEqDiff, Nat.reduceLT, Nat.reduceAdd, Nat.reduceMul, Nat.reduceLeDiff, Nat.le_refl, Int.natCast_zero, Int.toNat_natCast, Int.reduceToNat]
    refine sCallT_one hq ?_
    simp -dsimp -implicitDefEqProofs only [go_sem, ↓reduceIte, Nat.reduceEqDiff, Nat.reduceLT, Nat.reduceAdd, Nat.reduceMul, Nat.reduceLeDiff, Nat.le_refl, Int.natCast_zero, Int.toNat_natCast, Int.reduceToNat]
    refine sCallT_one hr ?_
    cases isCutsOf m t cuts <;> simp -dsimp -implicitDefEqProofs only [go_sem, ↓reduceIte, Nat.reduceEqDiff, Nat.reduceLT, Nat.reduceAdd, Nat.reduceMul, Nat.reduceLeDiff, Nat.le_refl, Int.natCast_zero, Int.toNat_natCast, Int.reduceToNat]
    all_goals ((repeat' (with_reducible refine And.intro ?_ ?_)); all_goals try (first | omega | (refine ⟨?_, ?_⟩ <;> omega) | (exact rfl)))
theorem c_sIsDesign (m : MkM) (t cuts : List (List Int)) (h : t.length ≤ 1048576) (h2 : ∀ x ∈ t, x.length ≤ 1048576) (h3 : cuts.length ≤ 1048576) (h4 : ∀ x ∈ cuts, x.length ≤ 1048576) : Fn Tryz.prog 93 [eSy m t, eIss cuts] true (· = eB (isDes m t cuts)) := by
  refine Fn.of_vcN 16 [.tmp 4] Tryz.func93 rfl rfl rfl rfl rfl (of_decide_eq_true rfl) ?_
  have hq := c_l15Code m t cuts h h2 h3 h4
  have hf0 := falses_len0 m t cuts
  rcases hb : (isSy m t && isCutsOf m t cuts) with _ | _
  · have hc : (cutsC m t cuts == 0) = false := by
      unfold cutsC
      cases h1 : isSy m t <;> cases h2 : isCutsOf m t cuts <;> simp_all
    unfold isDes
    rw [hb]
    generalize cutsC m t cuts = c at *
    simp -dsimp -implicitDefEqProofs only [go_sem, ↓reduceIte, Nat.reduceEqDiff, Nat.reduceLT, Nat.reduceAdd, Nat.reduceMul, Nat.reduceLeDiff, Nat.le_refl, Int.natCast_zero, Int.toNat_natCast, Int.reduceToNat]
    refine sCallT_one hq ?_
    simp -dsimp -implicitDefEqProofs only [go_sem, ↓reduceIte, Nat.reduceEqDiff, Nat.reduceLT, Nat.reduceAdd, Nat.reduceMul, Nat.reduceLeDiff, Nat.le_refl, Int.natCast_zero, Int.toNat_natCast, Int.reduceToNat, hc]
    ((repeat' (with_reducible refine And.intro ?_ ?_)); all_goals try (first | omega | (refine ⟨?_, ?_⟩ <;> omega) | (exact rfl)))
    all_goals trace_state
  · obtain ⟨h5, h6⟩ := Bool.and_eq_true_iff.1 hb
    have hn := isSy_num h5
    obtain ⟨h7, h8⟩ := isCutsOf_out h6
    have hr := c_l15False m t cuts (isSy_mk h5) (by omega) (by omega) (by omega) (fun i hi => hn.2.2.2.2 i hi) (by omega) (fun x hx => (key1_out (h8 x hx)).1)
    have hc : cutsC m t cuts = 0 := by rw [cutsC, h5, h6]; rfl
    rw [hc] at hq
    unfold isDes
    rw [hb]
    generalize falses m t cuts = F at *
    simp -dsimp -implicitDefEqProofs only [go_sem, ↓reduceIte, Nat.reduceEqDiff, Nat.reduceLT, Nat.reduceAdd, Nat.reduceMul, Nat.reduceLeDiff, Nat.le_refl, Int.natCast_zero, Int.toNat_natCast, Int.reduceToNat]
    refine sCallT_one hq ?_
    simp -dsimp -implicitDefEqProofs only [go_sem, ↓reduceIte, Nat.reduceEqDiff, Nat.reduceLT, Nat.reduceAdd, Nat.reduceMul, Nat.reduceLeDiff, Nat.le_refl, Int.natCast_zero, Int.toNat_natCast, Int.reduceToNat]
    (refine sCallS_one (hr) (by simp [noLabs, labs, labsL, isClo]) ?_)
    simp -dsimp -implicitDefEqProofs only [go_sem, ↓reduceIte, Nat.reduceEqDiff, Nat.reduceLT, Nat.reduceAdd, Nat.reduceMul, Nat.reduceLeDiff, Nat.le_refl, Int.natCast_zero, Int.toNat_natCast, Int.reduceToNat, hf0]
    ((repeat' (with_reducible refine And.intro ?_ ?_)); all_goals try (first | omega | (refine ⟨?_, ?_⟩ <;> omega) | (exact rfl)))
    all_goals trace_state
theorem c_l21Code (m : MkM) (t cuts : List (List Int)) (h : t.length ≤ 1048576) (h2 : ∀ x ∈ t, x.length ≤ 1048576) (h3 : cuts.length ≤ 1048576) (h4 : ∀ x ∈ cuts, x.length ≤ 1048576) : Fn Tryz.prog 69 [eSy m t, eIss cuts] true (· = eI (if isDes m t cuts then 0 else 1)) := by
  refine Fn.of_vcN 9 [.tmp 4] Tryz.func69 rfl rfl rfl rfl rfl (of_decide_eq_true rfl) ?_
  have hq := c_sIsDesign m t cuts h h2 h3 h4
  simp -dsimp -implicitDefEqProofs only [go_sem, ↓reduceIte, Nat.reduceEqDiff, Nat.reduceLT, Nat.reduceAdd, Nat.reduceMul, Nat.reduceLeDiff, Nat.le_refl, Int.natCast_zero, Int.toNat_natCast, Int.reduceToNat]
  refine sCallT_one hq ?_
  cases isDes m t cuts <;> simp -dsimp -implicitDefEqProofs only [go_sem, ↓reduceIte, Nat.reduceEqDiff, Nat.reduceLT, Nat.reduceAdd, Nat.reduceMul, Nat.reduceLeDiff, Nat.le_refl, Int.natCast_zero, Int.toNat_natCast, Int.reduceToNat]
  all_goals ((repeat' (with_reducible refine And.intro ?_ ?_)); all_goals try (first | omega | (refine ⟨?_, ?_⟩ <;> omega) | (exact rfl)))
theorem c_cutsCode (m : MkM) (t cuts : List (List Int)) (h : t.length ≤ 1048576) (h2 : ∀ x ∈ t, x.length ≤ 1048576) (h3 : cuts.length ≤ 1048576) (h4 : ∀ x ∈ cuts, x.length ≤ 1048576) : Fn Tryz.prog 117 [eSy m t, eIss cuts] true (· = eI (cutsC m t cuts)) := by
  refine Fn.of_vcN 21 [.tmp 4] Tryz.func117 rfl rfl rfl rfl rfl (of_decide_eq_true rfl) ?_
  have hq := c_iIsSystem m t h h2
  unfold cutsC
  rcases hb : isSy m t with _ | _
  · rw [hb] at hq
    simp -dsimp -implicitDefEqProofs only [go_sem, ↓reduceIte, Nat.reduceEqDiff, Nat.reduceLT, Nat.reduceAdd, Nat.reduceMul, Nat.reduceLeDiff, Nat.le_refl, Int.natCast_zero, Int.toNat_natCast, Int.reduceToNat]
    refine sCallT_one hq ?_
    simp -dsimp -implicitDefEqProofs only [go_sem, ↓reduceIte, Nat.reduceEqDiff, Nat.reduceLT, Nat.reduceAdd, Nat.reduceMul, Nat.reduceLeDiff, Nat.le_refl, Int.natCast_zero, Int.toNat_natCast, Int.reduceToNat]
    ((repeat' (with_reducible refine And.intro ?_ ?_)); all_goals try (first | omega | (refine ⟨?_, ?_⟩ <;> omega) | (exact rfl)))
  · have hr := c_areKeys m cuts (isSy_mk hb) h3 h4
    rw [hb] at hq
    have hlen : ((cuts.length : Int) != (t.length : Int)) = !(cuts.length == t.length) := by
      rw [Bool.eq_iff_iff]; simp only [bne_iff_ne, Bool.not_eq_true', beq_eq_false_iff_ne]; omega
    unfold isCutsOf
    rcases hl : (cuts.length == t.length) with _ | _
    · simp -dsimp -implicitDefEqProofs only [go_sem, ↓reduceIte, Nat.reduceEqDiff, Nat.reduceLT, Nat.reduceAdd, Nat.reduceMul, Nat.reduceLeDiff, Nat.le_refl, Int.natCast_zero, Int.toNat_natCast, Int.reduceToNat]
      refine sCallT_one hq ?_
      simp -dsimp -implicitDefEqProofs only [go_sem, ↓reduceIte, Nat.reduceEqDiff, Nat.reduceLT, Nat.reduceAdd, Nat.reduceMul, Nat.reduceLeDiff, Nat.le_refl, Int.natCast_zero, Int.toNat_natCast, Int.reduceToNat, hlen, hl, Bool.not_false]
      ((repeat' (with_reducible refine And.intro ?_ ?_)); all_goals try (first | omega | (refine ⟨?_, ?_⟩ <;> omega) | (exact rfl)))
      all_goals trace_state
    · simp -dsimp -implicitDefEqProofs only [go_sem, ↓reduceIte, Nat.reduceEqDiff, Nat.reduceLT, Nat.reduceAdd, Nat.reduceMul, Nat.reduceLeDiff, Nat.le_refl, Int.natCast_zero, Int.toNat_natCast, Int.reduceToNat]
      refine sCallT_one hq ?_
      simp -dsimp -implicitDefEqProofs only [go_sem, ↓reduceIte, Nat.reduceEqDiff, Nat.reduceLT, Nat.reduceAdd, Nat.reduceMul, Nat.reduceLeDiff, Nat.le_refl, Int.natCast_zero, Int.toNat_natCast, Int.reduceToNat, hlen, hl, Bool.not_true]
      refine sCallT_one hr ?_
      cases cuts.all (key1 m) <;> simp -dsimp -implicitDefEqProofs only [go_sem, ↓reduceIte, Nat.reduceEqDiff, Nat.reduceLT, Nat.reduceAdd, Nat.reduceMul, Nat.reduceLeDiff, Nat.le_refl, Int.natCast_zero, Int.toNat_natCast, Int.reduceToNat]
      all_goals ((repeat' (with_reducible refine And.intro ?_ ?_)); all_goals try (first | omega | (refine ⟨?_, ?_⟩ <;> omega) | (exact rfl)))
      all_goals trace_state
theorem c_iIsDesign (m : MkM) (t cuts : List (List Int)) (h : t.length ≤ 1048576) (h2 : ∀ x ∈ t, x.length ≤ 1048576) (h3 : cuts.length ≤ 1048576) (h4 : ∀ x ∈ cuts, x.length ≤ 1048576) : Fn Tryz.prog 96 [eSy m t, eIss cuts] true (· = eB (isDes m t cuts)) := by
  refine Fn.of_vcN 16 [.tmp 4] Tryz.func96 rfl rfl rfl rfl rfl (of_decide_eq_true rfl) ?_
  have hq := c_cutsCode m t cuts h h2 h3 h4
  have hf0 := falses_len0 m t cuts
  rcases hb : (isSy m t && isCutsOf m t cuts) with _ | _
  · have hc : (cutsC m t cuts == 0) = false := by
      unfold cutsC
      cases h1 : isSy m t <;> cases h2 : isCutsOf m t cuts <;> simp_all
    unfold isDes
    rw [hb]
    generalize cutsC m t cuts = c at *
    simp -dsimp -implicitDefEqProofs only [go_sem, ↓reduceIte, Nat.reduceEqDiff, Nat.reduceLT, Nat.reduceAdd, Nat.reduceMul, Nat.reduceLeDiff, Nat.le_refl, Int.natCast_zero, Int.toNat_natCast, Int.reduceToNat]
    refine sCallT_one hq ?_
    simp -dsimp -implicitDefEqProofs only [go_sem, ↓reduceIte, Nat.reduceEqDiff, Nat.reduceLT, Nat.reduceAdd, Nat.reduceMul, Nat.reduceLeDiff, Nat.le_refl, Int.natCast_zero, Int.toNat_natCast, Int.reduceToNat, hc]
    ((repeat' (with_reducible refine And.intro ?_ ?_)); all_goals try (first | omega | (refine ⟨?_, ?_⟩ <;> omega) | (exact rfl)))
    all_goals trace_state
  · obtain ⟨h5, h6⟩ := Bool.and_eq_true_iff.1 hb
    have hn := isSy_num h5
    obtain ⟨h7, h8⟩ := isCutsOf_out h6
    have hr := c_partFaults m t cuts (isSy_mk h5) (by omega) (by omega) (by omega) (fun i hi => hn.2.2.2.2 i hi) (by omega) (fun x hx => key1_out (h8 x hx))
    have hc : cutsC m t cuts = 0 := by rw [cutsC, h5, h6]; rfl
    rw [hc] at hq
    unfold isDes
    rw [hb]
    generalize falses m t cuts = F at *
    simp -dsimp -implicitDefEqProofs only [go_sem, ↓reduceIte, Nat.reduceEqDiff, Nat.reduceLT, Nat.reduceAdd, Nat.reduceMul, Nat.reduceLeDiff, Nat.le_refl, Int.natCast_zero, Int.toNat_natCast, Int.reduceToNat]
    refine sCallT_one hq ?_
    simp -dsimp -implicitDefEqProofs only [go_sem, ↓reduceIte, Nat.reduceEqDiff, Nat.reduceLT, Nat.reduceAdd, Nat.reduceMul, Nat.reduceLeDiff, Nat.le_refl, Int.natCast_zero, Int.toNat_natCast, Int.reduceToNat]
    (refine sCallS_one (hr) (by simp [noLabs, labs, labsL, isClo]) ?_)
    simp -dsimp -implicitDefEqProofs only [go_sem, ↓reduceIte, Nat.reduceEqDiff, Nat.reduceLT, Nat.reduceAdd, Nat.reduceMul, Nat.reduceLeDiff, Nat.le_refl, Int.natCast_zero, Int.toNat_natCast, Int.reduceToNat, hf0]
    ((repeat' (with_reducible refine And.intro ?_ ?_)); all_goals try (first | omega | (refine ⟨?_, ?_⟩ <;> omega) | (exact rfl)))
    all_goals trace_state
theorem c_designCode (m : MkM) (t cuts : List (List Int)) (h : t.length ≤ 1048576) (h2 : ∀ x ∈ t, x.length ≤ 1048576) (h3 : cuts.length ≤ 1048576) (h4 : ∀ x ∈ cuts, x.length ≤ 1048576) : Fn Tryz.prog 75 [eSy m t, eIss cuts] true (· = eI (if isDes m t cuts then 0 else 1)) := by
  refine Fn.of_vcN 9 [.tmp 4] Tryz.func75 rfl rfl rfl rfl rfl (of_decide_eq_true rfl) ?_
  have hq := c_iIsDesign m t cuts h h2 h3 h4
  simp -dsimp -implicitDefEqProofs only [go_sem, ↓reduceIte, Nat.reduceEqDiff, Nat.reduceLT, Nat.reduceAdd, Nat.reduceMul, Nat.reduceLeDiff, Nat.le_refl, Int.natCast_zero, Int.toNat_natCast, Int.reduceToNat]
  refine sCallT_one hq ?_
  cases isDes m t cuts <;> simp -dsimp -implicitDefEqProofs only [go_sem, ↓reduceIte, Nat.reduceEqDiff, Nat.reduceLT, Nat.reduceAdd, Nat.reduceMul, Nat.reduceLeDiff, Nat.le_refl, Int.natCast_zero, Int.toNat_natCast, Int.reduceToNat]
  all_goals ((repeat' (with_reducible refine And.intro ?_ ?_)); all_goals try (first | omega | (refine ⟨?_, ?_⟩ <;> omega) | (exact rfl)))
end Go.Vc


/-
  Contracts: what an order needs, the specification's.
-/
set_option linter.unusedVariables false
set_option linter.unusedSimpArgs false
set_option linter.unnecessarySimpa false
namespace Go.Vc
open Go.Proofs
set_option maxRecDepth 100000
set_option maxHeartbeats 4000000
theorem onTo_in {t cuts : List (List Int)} {k r : Nat} (h1 : ((t.getD r []).getD k 0 == 1) = true) : ∀ n, r < n → cuts.getD r [] ∈ onTo t cuts k n
  | 0, h => by omega
  | n + 1, h => by
    rw [onTo_succ]
    by_cases e : r = n
    · subst e; rw [if_pos h1]; simp
    · have := onTo_in h1 (cuts := cuts) n (by omega)
      split
      · exact List.mem_append_left _ this
      · exact this
theorem rises_of {xs : List Int} {n : Int} (hp : xs.Pairwise (· < ·)) (hb : ∀ x ∈ xs, 0 ≤ x ∧ x < n) : rises xs n = true := by
  unfold rises
  rw [List.all_eq_true]
  intro i hi
  have hi := List.mem_range.1 hi
  have h1 := hb _ (List.getElem_mem hi)
  have e : xs.getD i 0 = xs[i] := by simp [List.getD_eq_getElem?_getD, hi]
  simp only [riseAt, Bool.and_eq_true, Bool.or_eq_true, decide_eq_true_eq, beq_iff_eq]
  rw [e]
  refine ⟨h1, ?_⟩
  by_cases h0 : i = 0
  · exact .inl h0
  · have hi' : i - 1 < xs.length := by omega
    have e' : xs.getD (i - 1) 0 = xs[i - 1] := by simp [List.getD_eq_getElem?_getD, hi']
    rw [e']
    exact .inr (List.pairwise_iff_getElem.1 hp (i - 1) i hi' hi (by omega))
theorem lock_ok {m : MkM} {t cuts : List (List Int)} (hs : isSy m t = true) (hc : isCutsOf m t cuts = true) {k : Nat} (hk : k < (t.getD 0 []).length) : isLk0 m (lockAt m t cuts k) = true := by
  have hmk := isSy_mk hs
  have ⟨⟨n1, n2⟩, n3, n4⟩ := isMk_num hmk
  obtain ⟨c1, c2⟩ := isCutsOf_out hc
  simp only [isSy, Bool.and_eq_true] at hs
  have hd := hs.2
  unfold doorsOpen at hd
  rw [List.all_eq_true] at hd
  have hd := hd k (List.mem_range.2 hk)
  unfold doorOpen at hd
  obtain ⟨row, hrow, hr1⟩ := List.any_eq_true.1 hd
  obtain ⟨r, hr, rfl⟩ := List.getElem_of_mem hrow
  have hrt : t.getD r [] = t[r] := by simp [List.getD_eq_getElem?_getD, hr]
  have hin := onTo_in (cuts := cuts) (t := t) (k := k) (r := r) (by rw [hrt]; exact hr1) cuts.length (by omega)
  have hrc : r < cuts.length := by omega
  have hcr : cuts.getD r [] = cuts[r] := by simp [List.getD_eq_getElem?_getD, hrc]
  rw [hcr] at hin
  obtain ⟨k1, k2⟩ := key1_out (c2 _ (List.getElem_mem hrc))
  simp only [isLk0, Bool.and_eq_true, beq_iff_eq, List.all_eq_true]
  refine ⟨by rw [lockAt_len]; omega, fun x hx => ?_⟩
  simp only [lockAt, hull, List.mem_map, List.mem_range] at hx
  obtain ⟨i, hi, rfl⟩ := hx
  simp only [lockSet, Bool.and_eq_true, decide_eq_true_eq]
  have hil : i < cuts[r].length := by omega
  have hb := k2 _ (List.getElem_mem hil)
  constructor
  · have hm := mem_flt_of (p := hullAt (onTo t cuts k cuts.length) i) (n := m.depths.toNat) (j := cuts[r][i].toNat) (by omega) (by
      unfold hullAt
      rw [List.any_eq_true]
      refine ⟨cuts[r], hin, ?_⟩
      rw [beq_iff_eq, show cuts[r].getD i 0 = cuts[r][i] by simp [List.getD_eq_getElem?_getD, hil]]
      omega)
    intro h0
    have : hullSet m (onTo t cuts k cuts.length) i = [] := List.eq_nil_of_length_eq_zero h0
    unfold hullSet at this
    rw [this] at hm; cases hm
  · refine rises_of (flt_pair _ _) fun x hx => ?_
    obtain ⟨j, hj, rfl, _⟩ := flt_mem hx
    omega
theorem isOrd_out {t : List (List Int)} {os : List ItM} (h : isOrd t os = true) : os.length ≤ 20 ∧ ∀ i (hi : i < os.length), 0 ≤ os[i].index ∧ os[i].index < (if os[i].key = true then (t.length : Int) else (t.getD 0 []).length) ∧ 1 ≤ os[i].copies ∧ os[i].copies ≤ 50 := by
  simp only [isOrd, Bool.and_eq_true, decide_eq_true_eq, List.all_eq_true] at h
  refine ⟨h.2, fun i hi => ?_⟩
  have := h.1 _ (List.getElem_mem hi)
  simp only [itOk, isIn, Bool.and_eq_true, decide_eq_true_eq] at this
  omega
theorem osTo_ok {m : MkM} {t cuts : List (List Int)} {os : List ItM} (hs : isSy m t = true) (hc : isCutsOf m t cuts = true) (ho : isOrd t os = true) : ∀ i : Nat, i ≤ os.length → ok3 m.depths.toNat ((i : Int) * 350000000) (osTo m t cuts os i)
  | 0, _ => (zero3_ok _).mono (by simp)
  | i + 1, hi => by
    have ih := osTo_ok hs hc ho (m := m) (cuts := cuts) i (by omega)
    have hlt : i < os.length := by omega
    obtain ⟨_, h1⟩ := isOrd_out ho
    obtain ⟨a1, a2, a3, a4⟩ := h1 i hlt
    have e : os.getD i default = os[i] := by simp [List.getD_eq_getElem?_getD, hlt]
    rw [osTo_succ, e]
    generalize os[i] = x at *
    unfold osStep
    split
    · exact ih.mono (by omega)
    · rename_i hk
      rw [if_neg hk] at a2
      have hmk := isSy_mk hs
      have hn := isMk_num hmk
      have hl := lock_ok hs hc (k := x.index.toNat) (by omega)
      have hst := stockL_ok hl hmk (fun y hy => by have := lockAt_sets m t cuts _ y hy; omega)
      exact ⟨(addM_ok ih.1 hst.1 ⟨by omega, a4⟩ _).mono (by omega), (addM_ok ih.2.1 hst.2.1 ⟨by omega, a4⟩ _).mono (by omega), (addM_ok ih.2.2 hst.2.2 ⟨by omega, a4⟩ _).mono (by omega)⟩
theorem i10 : ((1 : Int) == 0) = false := rfl
theorem n10 : ((1 : Int) != 0) = true := rfl
def stockCode (m : MkM) (t cuts : List (List Int)) (os : List ItM) : Int := if isDes m t cuts = true then (if isOrd t os = true then 0 else 2) else 1
def stockR (m : MkM) (t cuts : List (List Int)) (os : List ItM) : AV := if stockCode m t cuts os = 0 then .tup [eIs (osTo m t cuts os os.length).b, eIs (osTo m t cuts os os.length).w, eIs (osTo m t cuts os os.length).d, eI 0] else .tup [eIs [], eIs [], eIs [], eI (stockCode m t cuts os)]
theorem c_l29Code (m : MkM) (t cuts : List (List Int)) (os : List ItM) (h : t.length ≤ 1048576) (h2 : ∀ x ∈ t, x.length ≤ 1048576) (h3 : cuts.length ≤ 1048576) (h4 : ∀ x ∈ cuts, x.length ≤ 1048576) (h5 : os.length ≤ 1048576) : Fn Tryz.prog 37 [eSy m t, eIss cuts, eIts os] true (· = eI (stockCode m t cuts os)) := by
  refine Fn.of_vcN 20 [.tmp 6] Tryz.func37 rfl rfl rfl rfl rfl (of_decide_eq_true rfl) ?_
  have hq := c_l21Code m t cuts h h2 h3 h4
  unfold stockCode
  rcases hb : isDes m t cuts with _ | _
  · rw [hb] at hq
    simp -dsimp -implicitDefEqProofs only [go_sem, ↓reduceIte, Nat.reduceEqDiff, Nat.reduceLT, Nat.reduceAdd, Nat.reduceMul, Nat.reduceLeDiff, Nat.le_refl, Int.natCast_zero, Int.toNat_natCast, Int.reduceToNat]
    refine sCallT_one hq ?_
    simp -dsimp -implicitDefEqProofs only [go_sem, ↓reduceIte, Nat.reduceEqDiff, Nat.reduceLT, Nat.reduceAdd, Nat.reduceMul, Nat.reduceLeDiff, Nat.le_refl, Int.natCast_zero, Int.toNat_natCast, Int.reduceToNat, i10, n10]
    ((repeat' (with_reducible refine And.intro ?_ ?_)); all_goals try (first | omega | (refine ⟨?_, ?_⟩ <;> omega) | (exact rfl)))
  · have hn := isSy_num (isDes_out hb).1
    have hr := c_l29Valid m t os (by omega) h h2 (by omega)
    rw [hb] at hq
    simp -dsimp -implicitDefEqProofs only [go_sem, ↓reduceIte, Nat.reduceEqDiff, Nat.reduceLT, Nat.reduceAdd, Nat.reduceMul, Nat.reduceLeDiff, Nat.le_refl, Int.natCast_zero, Int.toNat_natCast, Int.reduceToNat]
    refine sCallT_one hq ?_
    simp -dsimp -implicitDefEqProofs only [go_sem, ↓reduceIte, Nat.reduceEqDiff, Nat.reduceLT, Nat.reduceAdd, Nat.reduceMul, Nat.reduceLeDiff, Nat.le_refl, Int.natCast_zero, Int.toNat_natCast, Int.reduceToNat]
    refine sCallT_one hr ?_
    cases isOrd t os <;> simp -dsimp -implicitDefEqProofs only [go_sem, ↓reduceIte, Nat.reduceEqDiff, Nat.reduceLT, Nat.reduceAdd, Nat.reduceMul, Nat.reduceLeDiff, Nat.le_refl, Int.natCast_zero, Int.toNat_natCast, Int.reduceToNat]
    all_goals ((repeat' (with_reducible refine And.intro ?_ ?_)); all_goals try (first | omega | (refine ⟨?_, ?_⟩ <;> omega) | (exact rfl)))
theorem c_designOrderCode (m : MkM) (t cuts : List (List Int)) (os : List ItM) (h : t.length ≤ 1048576) (h2 : ∀ x ∈ t, x.length ≤ 1048576) (h3 : cuts.length ≤ 1048576) (h4 : ∀ x ∈ cuts, x.length ≤ 1048576) (h5 : os.length ≤ 1048576) : Fn Tryz.prog 43 [eSy m t, eIss cuts, eIts os] true (· = eI (stockCode m t cuts os)) := by
  refine Fn.of_vcN 17 [.tmp 6] Tryz.func43 rfl rfl rfl rfl rfl (of_decide_eq_true rfl) ?_
  have hq := c_designCode m t cuts h h2 h3 h4
  have hr := c_orderCode m t os h h2 h5
  unfold stockCode
  rcases hb : isDes m t cuts with _ | _
  · rw [hb] at hq
    simp -dsimp -implicitDefEqProofs only [go_sem, ↓reduceIte, Nat.reduceEqDiff, Nat.reduceLT, Nat.reduceAdd, Nat.reduceMul, Nat.reduceLeDiff, Nat.le_refl, Int.natCast_zero, Int.toNat_natCast, Int.reduceToNat]
    refine sCallT_one hq ?_
    simp -dsimp -implicitDefEqProofs only [go_sem, ↓reduceIte, Nat.reduceEqDiff, Nat.reduceLT, Nat.reduceAdd, Nat.reduceMul, Nat.reduceLeDiff, Nat.le_refl, Int.natCast_zero, Int.toNat_natCast, Int.reduceToNat, i10, n10]
    ((repeat' (with_reducible refine And.intro ?_ ?_)); all_goals try (first | omega | (refine ⟨?_, ?_⟩ <;> omega) | (exact rfl)))
  · rw [hb] at hq
    rw [ordCode, (isDes_out hb).1] at hr
    simp -dsimp -implicitDefEqProofs only [go_sem, ↓reduceIte, Nat.reduceEqDiff, Nat.reduceLT, Nat.reduceAdd, Nat.reduceMul, Nat.reduceLeDiff, Nat.le_refl, Int.natCast_zero, Int.toNat_natCast, Int.reduceToNat]
    refine sCallT_one hq ?_
    simp -dsimp -implicitDefEqProofs only [go_sem, ↓reduceIte, Nat.reduceEqDiff, Nat.reduceLT, Nat.reduceAdd, Nat.reduceMul, Nat.reduceLeDiff, Nat.le_refl, Int.natCast_zero, Int.toNat_natCast, Int.reduceToNat]
    refine sCallT_one hr ?_
    cases isOrd t os <;> simp -dsimp -implicitDefEqProofs only [go_sem, ↓reduceIte, Nat.reduceEqDiff, Nat.reduceLT, Nat.reduceAdd, Nat.reduceMul, Nat.reduceLeDiff, Nat.le_refl, Int.natCast_zero, Int.toNat_natCast, Int.reduceToNat]
    all_goals ((repeat' (with_reducible refine And.intro ?_ ?_)); all_goals try (first | omega | (refine ⟨?_, ?_⟩ <;> omega) | (exact rfl)))
theorem addM_map (xs a : List Int) (c : Int) (k : Nat) : (addM xs a c (k + 1)).map eI = ((addM xs a c k).map eI).set k (eI (xs.getD k 0 + c * a.getD k 0)) := by rw [addM_succ, List.map_set]
theorem addM_at {D : Nat} {p : Int} {xs : List Int} (h : okS D p xs) (a : List Int) (c : Int) {k : Nat} (hk : k < D) : (addM xs a c k)[k]? = some (xs.getD k 0) := by
  have h1 := addM_len xs a c k
  have h2 := addM_get xs a c k k
  rw [if_neg (by omega)] at h2
  rw [← h2]
  have : k < (addM xs a c k).length := by rw [h1, h.1]; exact hk
  simp [List.getD_eq_getElem?_getD, this]
theorem okS.at {D : Nat} {p : Int} {xs : List Int} (h : okS D p xs) {k : Nat} (hk : k < D) : xs[k]? = some (xs.getD k 0) := by
  have : k < xs.length := by rw [h.1]; exact hk
  simp [List.getD_eq_getElem?_getD, this]
theorem mul_in {c x q : Int} (hc : 0 ≤ c ∧ c ≤ 50) (hx : 0 ≤ x ∧ x ≤ q) : 0 ≤ c * x ∧ c * x ≤ 50 * q :=
  ⟨Int.mul_nonneg hc.1 hx.1, Int.le_trans (Int.mul_le_mul_of_nonneg_right hc.2 hx.1) (Int.mul_le_mul_of_nonneg_left hx.2 (by decide))⟩
theorem c_sOrderStock (m : MkM) (t cuts : List (List Int)) (os : List ItM) (h : t.length ≤ 1048576) (h2 : ∀ x ∈ t, x.length ≤ 1048576) (h3 : cuts.length ≤ 1048576) (h4 : ∀ x ∈ cuts, x.length ≤ 1048576) (h5 : os.length ≤ 1048576) : Fn Tryz.prog 9 [eSy m t, eIss cuts, eIts os] true (· = stockR m t cuts os) := by
  refine Fn.of_vcN 130 [.tmp 6, .tmp 7, .tmp 8, .tmp 9] Tryz.func9 rfl rfl rfl rfl rfl (of_decide_eq_true rfl) ?_
  have hq := c_l29Code m t cuts os h h2 h3 h4 h5
  unfold stockR
  rcases hb : (isDes m t cuts && isOrd t os) with _ | _
  · have hne : stockCode m t cuts os ≠ 0 := by
      unfold stockCode
      cases h6 : isDes m t cuts <;> cases h7 : isOrd t os <;> simp_all
    rw [if_neg hne]
    have hne' : (stockCode m t cuts os != 0) = true := by simp [hne]
    generalize stockCode m t cuts os = c at *
    simp -dsimp -implicitDefEqProofs only [go_sem, ↓reduceIte, Nat.reduceEqDiff, Nat.reduceLT, Nat.reduceAdd, Nat.reduceMul, Nat.reduceLeDiff, Nat.le_refl, Int.natCast_zero, Int.toNat_natCast, Int.reduceToNat]
    refine sCallT_one hq ?_
    simp -dsimp -implicitDefEqProofs only [go_sem, ↓reduceIte, Nat.reduceEqDiff, Nat.reduceLT, Nat.reduceAdd, Nat.reduceMul, Nat.reduceLeDiff, Nat.le_refl, Int.natCast_zero, Int.toNat_natCast, Int.reduceToNat, hne']
    ((repeat' (with_reducible refine And.intro ?_ ?_)); all_goals try (first | omega | (refine ⟨?_, ?_⟩ <;> omega) | (exact rfl)))
    all_goals trace_state
  obtain ⟨hd, ho⟩ := Bool.and_eq_true_iff.1 hb
  have h0 : stockCode m t cuts os = 0 := by rw [stockCode, if_pos hd, if_pos ho]
  rw [if_pos h0]
  rw [h0] at hq
  obtain ⟨hs, hc⟩ := isDes_out hd
  have hmk := isSy_mk hs
  have ⟨⟨n1, n2⟩, n3, n4⟩ := isMk_num hmk
  obtain ⟨k1, k2, k3, k4, k5⟩ := isSy_num hs
  obtain ⟨c1, c2⟩ := isCutsOf_out hc
  obtain ⟨o1, o2⟩ := isOrd_out ho
  have hok := fun i (hi : i ≤ os.length) => osTo_ok hs hc ho i hi
  simp -dsimp -implicitDefEqProofs only [go_sem, ↓reduceIte, Nat.reduceEqDiff, Nat.reduceLT, Nat.reduceAdd, Nat.reduceMul, Nat.reduceLeDiff, Nat.le_refl, Int.natCast_zero, Int.toNat_natCast, Int.reduceToNat]
  refine sCallT_one hq ?_
  simp -dsimp -implicitDefEqProofs only [go_sem, ↓reduceIte, Nat.reduceEqDiff, Nat.reduceLT, Nat.reduceAdd, Nat.reduceMul, Nat.reduceLeDiff, Nat.le_refl, Int.natCast_zero, Int.toNat_natCast, Int.reduceToNat]
  refine Later.draw mixed rfl ?_
  simp -dsimp -implicitDefEqProofs only [go_sem, ↓reduceIte, Nat.reduceEqDiff, Nat.reduceLT, Nat.reduceAdd, Nat.reduceMul, Nat.reduceLeDiff, Nat.le_refl, Int.natCast_zero, Int.toNat_natCast, Int.reduceToNat]
  refine ⟨⟨by omega, by omega⟩, ⟨by omega, by omega⟩, ⟨by omega, by omega⟩, by exact rfl, ?_⟩
  refine Later.up [1, 2, 3, 11, 12, 13] [41, 60, 61, 62, 69] [30, 34, 38] os.length (fun _ => True) (fun i => [(14, eI i)]) (fun i => [(30, .row 0 ⟨1, false⟩ true ((osTo m t cuts os i).b.map eI)), (34, .row 0 ⟨1, false⟩ true ((osTo m t cuts os i).w.map eI)), (38, .row 0 ⟨1, false⟩ true ((osTo m t cuts os i).d.map eI))]) trivial ?_ rfl (fun i hi _ => ?_) (fun _ => ?_)
  · simp -dsimp -implicitDefEqProofs only [go_sem, ↓reduceIte, Nat.reduceEqDiff, Nat.reduceLT, Nat.reduceAdd, Nat.reduceMul, Nat.reduceLeDiff, Nat.le_refl, Int.natCast_zero, Int.toNat_natCast, Int.reduceToNat, osTo_zero, zero3, List.map_replicate]
    ((repeat' (with_reducible refine And.intro ?_ ?_)); all_goals try (first | omega | (refine ⟨?_, ?_⟩ <;> omega) | (exact rfl)))
  · have gi := get_some hi
    have li := lt_len hi
    have oi := o2 i hi
    have e : os.getD i default = os[i] := by simp [List.getD_eq_getElem?_getD, hi]
    have hz := hok i (by omega)
    rw [osTo_succ, e]
    clear e
    generalize osTo m t cuts os i = z at *
    generalize os[i] = x at *
    obtain ⟨xk, xi, xc⟩ := x
    unfold osStep
    simp only at oi ⊢
    cases xk with
    | true =>
      simp only [if_true]
      simp -dsimp -implicitDefEqProofs only [pick_nil, pick_cons, look_nil, look_cons, dropB_nil, dropB_cons, inD_nil, inD_cons, inE_nil, inE_cons, or_t_l, or_f_l, Nat.reduceBEq, Nat.reduceDiv, Nat.reduceAdd, beq_self_eq_true, Bool.false_eq_true, Bool.or_false, ↓reduceIte, Nat.reduceEqDiff, List.cons_append, List.nil_append]
      simp -dsimp -implicitDefEqProofs only [go_sem, ↓reduceIte, Nat.reduceEqDiff, Nat.reduceLT, Nat.reduceAdd, Nat.reduceMul, Nat.reduceLeDiff, Nat.le_refl, Int.natCast_zero, Int.toNat_natCast, Int.reduceToNat, gi, li]
      ((repeat' (with_reducible refine And.intro ?_ ?_)); all_goals try (first | omega | (refine ⟨?_, ?_⟩ <;> omega) | (exact rfl)))
      all_goals trace_state
    | false =>
      simp only [Bool.false_eq_true, if_false] at oi ⊢
      obtain ⟨a1, a2, a3, a4⟩ := oi
      have hil : xi.toNat < (t.getD 0 []).length := by omega
      have hxi : xi = ((xi.toNat : Nat) : Int) := by omega
      have hl := lock_ok hs hc hil
      have hll : ∀ y ∈ lockAt m t cuts xi.toNat, y.length ≤ 1048576 := fun y hy => by have := lockAt_sets m t cuts _ y hy; omega
      have hlock := c_l15Lock m t cuts xi.toNat hmk (by omega) (by omega) (fun j hj => by rw [k5 j hj]; exact hil) (fun y hy => (key1_out (c2 y hy)).1)
      rw [← hxi] at hlock
      have hstk := c_sStockOf m (lockAt m t cuts xi.toNat) hmk hl hll
      have hst := stockL_ok hl hmk hll
      generalize lockAt m t cuts xi.toNat = L at *
      generalize stockL m L = q at *
      obtain ⟨qb, qw, qd⟩ := q
      obtain ⟨zb, zw, zd⟩ := z
      obtain ⟨⟨s1, s1'⟩, ⟨s2, s2'⟩, ⟨s3, s3'⟩⟩ := hst
      have hst : okS m.depths.toNat 7000000 qb ∧ okS m.depths.toNat 7000000 qw ∧ okS m.depths.toNat 7000000 qd := ⟨⟨s1, s1'⟩, ⟨s2, s2'⟩, ⟨s3, s3'⟩⟩
      obtain ⟨z1, z2, z3⟩ := hz
      simp only at s1 s2 s3 z1 z2 z3 hstk ⊢
      unfold add3
      simp only
      simp -dsimp -implicitDefEqProofs only [pick_nil, pick_cons, look_nil, look_cons, dropB_nil, dropB_cons, inD_nil, inD_cons, inE_nil, inE_cons, or_t_l, or_f_l, Nat.reduceBEq, Nat.reduceDiv, Nat.reduceAdd, beq_self_eq_true, Bool.false_eq_true, Bool.or_false, ↓reduceIte, Nat.reduceEqDiff, List.cons_append, List.nil_append]
      simp -dsimp -implicitDefEqProofs only [go_sem, ↓reduceIte, Nat.reduceEqDiff, Nat.reduceLT, Nat.reduceAdd, Nat.reduceMul, Nat.reduceLeDiff, Nat.le_refl, Int.natCast_zero, Int.toNat_natCast, Int.reduceToNat, gi, li]
      ((repeat' (with_reducible refine And.intro ?_ ?_)); all_goals try (first | omega | (refine ⟨?_, ?_⟩ <;> omega) | (exact rfl)))
      refine Later.draw mixed rfl ?_
      simp -dsimp -implicitDefEqProofs only [go_sem, ↓reduceIte, Nat.reduceEqDiff, Nat.reduceLT, Nat.reduceAdd, Nat.reduceMul, Nat.reduceLeDiff, Nat.le_refl, Int.natCast_zero, Int.toNat_natCast, Int.reduceToNat, gi]
      ((repeat' (with_reducible refine And.intro ?_ ?_)); all_goals try (first | omega | (refine ⟨?_, ?_⟩ <;> omega) | (exact rfl)))
      refine sCallXS_one hlock (by simp [noLabs, labs, labsL, isClo]) ?_
      simp -dsimp -implicitDefEqProofs only [go_sem, ↓reduceIte, Nat.reduceEqDiff, Nat.reduceLT, Nat.reduceAdd, Nat.reduceMul, Nat.reduceLeDiff, Nat.le_refl, Int.natCast_zero, Int.toNat_natCast, Int.reduceToNat]
      refine sCallX_one hstk ?_
      simp -dsimp -implicitDefEqProofs only [go_sem, ↓reduceIte, Nat.reduceEqDiff, Nat.reduceLT, Nat.reduceAdd, Nat.reduceMul, Nat.reduceLeDiff, Nat.le_refl, Int.natCast_zero, Int.toNat_natCast, Int.reduceToNat]
      ((repeat' (with_reducible refine And.intro ?_ ?_)); all_goals try (first | omega | (refine ⟨?_, ?_⟩ <;> omega) | (exact rfl)))
      refine Later.up [1, 2, 3, 11, 12, 13, 14, 15, 16, 17] [69] [30, 34, 38] m.depths.toNat (fun _ => True) (fun d => [(19, eI d)]) (fun d => [(30, .row 0 ⟨1, false⟩ true ((addM zb qb xc d).map eI)), (34, .row 0 ⟨1, false⟩ true ((addM zw qw xc d).map eI)), (38, .row 0 ⟨1, false⟩ true ((addM zd qd xc d).map eI))]) trivial ?_ rfl (fun d hd' _ => ?_) (fun _ => ?_)
      · simp -dsimp -implicitDefEqProofs only [go_sem, ↓reduceIte, Nat.reduceEqDiff, Nat.reduceLT, Nat.reduceAdd, Nat.reduceMul, Nat.reduceLeDiff, Nat.le_refl, Int.natCast_zero, Int.toNat_natCast, Int.reduceToNat, addM_zero]
        ((repeat' (with_reducible refine And.intro ?_ ?_)); all_goals try (first | omega | (refine ⟨?_, ?_⟩ <;> omega) | (exact rfl)))
      · have hlt : decide ((d : Int) < (qb.length : Int)) = true := decide_eq_true (by omega)
        have gzb := addM_at z1 qb xc hd'
        have gzw := addM_at z2 qw xc hd'
        have gzd := addM_at z3 qd xc hd'
        have gqb := hst.1.at hd'
        have gqw := hst.2.1.at hd'
        have gqd := hst.2.2.at hd'
        have bzb := z1.2 d hd'
        have bzw := z2.2 d hd'
        have bzd := z3.2 d hd'
        have mb := mul_in ⟨show 0 ≤ xc by omega, a4⟩ (hst.1.2 d hd')
        have mw := mul_in ⟨show 0 ≤ xc by omega, a4⟩ (hst.2.1.2 d hd')
        have md := mul_in ⟨show 0 ≤ xc by omega, a4⟩ (hst.2.2.2 d hd')
        have lb := addM_len zb qb xc d
        have lw := addM_len zw qw xc d
        have ld := addM_len zd qd xc d
        have lzb := z1.1
        have lzw := z2.1
        have lzd := z3.1
        rw [addM_map, addM_map, addM_map]
        generalize zb.getD d 0 = vb at *
        generalize zw.getD d 0 = vw at *
        generalize zd.getD d 0 = vd at *
        generalize qb.getD d 0 = ub at *
        generalize qw.getD d 0 = uw at *
        generalize qd.getD d 0 = ud at *
        generalize addM zb qb xc d = Ab at *
        generalize addM zw qw xc d = Aw at *
        generalize addM zd qd xc d = Ad at *
        generalize hmb : xc * ub = eb at *
        generalize hmw : xc * uw = ew at *
        generalize hmd : xc * ud = ed at *
        simp -dsimp -implicitDefEqProofs only [pick_nil, pick_cons, look_nil, look_cons, dropB_nil, dropB_cons, inD_nil, inD_cons, inE_nil, inE_cons, or_t_l, or_f_l, Nat.reduceBEq, Nat.reduceDiv, Nat.reduceAdd, beq_self_eq_true, Bool.false_eq_true, Bool.or_false, ↓reduceIte, Nat.reduceEqDiff, List.cons_append, List.nil_append]
        simp -dsimp -implicitDefEqProofs only [go_sem, ↓reduceIte, Nat.reduceEqDiff, Nat.reduceLT, Nat.reduceAdd, Nat.reduceMul, Nat.reduceLeDiff, Nat.le_refl, Int.natCast_zero, Int.toNat_natCast, Int.reduceToNat, hlt]
        refine Later.draw mixed rfl ?_
        simp -dsimp -implicitDefEqProofs only [go_sem, ↓reduceIte, Nat.reduceEqDiff, Nat.reduceLT, Nat.reduceAdd, Nat.reduceMul, Nat.reduceLeDiff, Nat.le_refl, Int.natCast_zero, Int.toNat_natCast, Int.reduceToNat, gi, gzb, gqb, hmb]
        ((repeat' (with_reducible refine And.intro ?_ ?_)); all_goals try (first | omega | (refine ⟨?_, ?_⟩ <;> omega) | (exact rfl)))
        refine Later.draw mixed rfl ?_
        simp -dsimp -implicitDefEqProofs only [go_sem, ↓reduceIte, Nat.reduceEqDiff, Nat.reduceLT, Nat.reduceAdd, Nat.reduceMul, Nat.reduceLeDiff, Nat.le_refl, Int.natCast_zero, Int.toNat_natCast, Int.reduceToNat, gi, gzw, gqw, hmw]
        ((repeat' (with_reducible refine And.intro ?_ ?_)); all_goals try (first | omega | (refine ⟨?_, ?_⟩ <;> omega) | (exact rfl)))
        refine Later.draw mixed rfl ?_
        simp -dsimp -implicitDefEqProofs only [go_sem, ↓reduceIte, Nat.reduceEqDiff, Nat.reduceLT, Nat.reduceAdd, Nat.reduceMul, Nat.reduceLeDiff, Nat.le_refl, Int.natCast_zero, Int.toNat_natCast, Int.reduceToNat, gi, gzd, gqd, hmd]
        ((repeat' (with_reducible refine And.intro ?_ ?_)); all_goals try (first | omega | (refine ⟨?_, ?_⟩ <;> omega) | (exact rfl)))
        all_goals trace_state
      · have hlt : decide (((m.depths.toNat : Nat) : Int) < (qb.length : Int)) = false := decide_eq_false (by omega)
        simp -dsimp -implicitDefEqProofs only [pick_nil, pick_cons, look_nil, look_cons, dropB_nil, dropB_cons, inD_nil, inD_cons, inE_nil, inE_cons, or_t_l, or_f_l, Nat.reduceBEq, Nat.reduceDiv, Nat.reduceAdd, beq_self_eq_true, Bool.false_eq_true, Bool.or_false, ↓reduceIte, Nat.reduceEqDiff, List.cons_append, List.nil_append]
        simp -dsimp -implicitDefEqProofs only [go_sem, ↓reduceIte, Nat.reduceEqDiff, Nat.reduceLT, Nat.reduceAdd, Nat.reduceMul, Nat.reduceLeDiff, Nat.le_refl, Int.natCast_zero, Int.toNat_natCast, Int.reduceToNat, hlt]
        ((repeat' (with_reducible refine And.intro ?_ ?_)); all_goals try (first | omega | (refine ⟨?_, ?_⟩ <;> omega) | (exact rfl)))
        all_goals trace_state
  · have hz := hok os.length (Nat.le_refl _)
    generalize osTo m t cuts os os.length = z at *
    obtain ⟨⟨l1, _⟩, ⟨l2, _⟩, ⟨l3, _⟩⟩ := hz
    have t1 := take_map_all eI z.b m.depths.toNat (by omega)
    have t2 := take_map_all eI z.w m.depths.toNat (by omega)
    have t3 := take_map_all eI z.d m.depths.toNat (by omega)
    simp -dsimp -implicitDefEqProofs only [pick_nil, pick_cons, look_nil, look_cons, dropB_nil, dropB_cons, inD_nil, inD_cons, inE_nil, inE_cons, or_t_l, or_f_l, Nat.reduceBEq, Nat.reduceDiv, Nat.reduceAdd, beq_self_eq_true, Bool.false_eq_true, Bool.or_false, ↓reduceIte, Nat.reduceEqDiff, List.cons_append, List.nil_append]
    simp -dsimp -implicitDefEqProofs only [go_sem, ↓reduceIte, Nat.reduceEqDiff, Nat.reduceLT, Nat.reduceAdd, Nat.reduceMul, Nat.reduceLeDiff, Nat.le_refl, Int.natCast_zero, Int.toNat_natCast, Int.reduceToNat, nlt_len]
    ((repeat' (with_reducible refine And.intro ?_ ?_)); all_goals try (first | omega | (refine ⟨?_, ?_⟩ <;> omega) | (exact rfl)))
    all_goals first | (rw [t1]; done) | (rw [t2]; done) | (rw [t3]; done) | (simp; done) | trace_state
end Go.Vc


