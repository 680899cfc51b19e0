/-
  Contracts of the functions on access tables and systems.
-/
import Derived.Test.YtlelhmbhhnokoaaDoorMaker
set_option linter.unusedVariables false
set_option linter.unusedSimpArgs false
set_option linter.unnecessarySimpa false
namespace Go.Vc
open Go.Proofs
set_option maxRecDepth 100000
abbrev eSy (m : MkM) (t : List (List Int)) : AV := .agg [eI m.chambers, eI m.depths, eI m.step, eI m.same, eI m.least, eIss t]
def rowOk (n : Nat) (r : List Int) : Bool := (r.length == n) && decide (1 ≤ r.length) && decide (r.length ≤ 12) && r.all fun x => isIn x 0 1
def isTb (t : List (List Int)) : Bool := decide (1 ≤ t.length) && decide (t.length ≤ 10) && t.all (rowOk (t.getD 0 []).length)
theorem isTb_no {t : List (List Int)} {i : Nat} (hi : i < t.length) (h : rowOk (t.getD 0 []).length t[i] = false) : isTb t = false := by
  rw [isTb, all_no hi h]; simp
theorem isTb_num {t : List (List Int)} (h : isTb t = true) : 1 ≤ t.length ∧ t.length ≤ 10 ∧ 1 ≤ (t.getD 0 []).length ∧ (t.getD 0 []).length ≤ 12 ∧ ∀ i (hi : i < t.length), t[i].length = (t.getD 0 []).length := by
  simp only [isTb, Bool.and_eq_true, decide_eq_true_eq] at h
  have hr : ∀ i (hi : i < t.length), rowOk (t.getD 0 []).length t[i] = true := fun i hi => List.all_eq_true.1 h.2 _ (List.getElem_mem hi)
  have h0 := hr 0 (by omega)
  have e : t.getD 0 [] = t[0]'(by omega) := by simp [List.getD_eq_getElem?_getD, show 0 < t.length by omega]
  simp only [rowOk, Bool.and_eq_true, decide_eq_true_eq, beq_iff_eq] at h0 hr
  rw [← e] at h0
  exact ⟨h.1.1, h.1.2, h0.1.1.2, h0.1.2, fun i hi => (hr i hi).1.1.1⟩
theorem c_iIsTable (t : List (List Int)) (h : t.length ≤ 1048576) (h2 : ∀ x ∈ t, x.length ≤ 1048576) : Fn Tryd.prog 66 [eIss t] true (· = eB (isTb t)) := by
  refine Fn.of_vcN 42 [.tmp 2] Tryd.func66 rfl rfl rfl rfl rfl (of_decide_eq_true rfl) ?_
  simp -dsimp -implicitDefEqProofs only [go_sem, ↓reduceIte, Nat.reduceEqDiff, Nat.reduceLT, Nat.reduceAdd, Nat.reduceMul, Nat.reduceLeDiff, Nat.le_refl, Int.natCast_zero, Int.toNat_natCast, Int.reduceToNat]
  refine Later.up [0, 5, 6] [12, 16, 20, 25, 30] [] t.length (fun i => (t.take i).all (rowOk (t.getD 0 []).length)) (fun i => [(7, eI i)]) (fun _ => []) (by simp) ?_ rfl (fun i hi hI => ?_) (fun hI => ?_)
  · simp -dsimp -implicitDefEqProofs only [go_sem, ↓reduceIte, Nat.reduceEqDiff, Nat.reduceLT, Nat.reduceAdd, Nat.reduceMul, Nat.reduceLeDiff, Nat.le_refl, Int.natCast_zero, Int.toNat_natCast, Int.reduceToNat]
  · have h00 : 0 < t.length := by omega
    have g0 := get_some h00
    have gd : t.getD 0 [] = t[0] := by simp [List.getD_eq_getElem?_getD, h00]
    have hx := h2 t[i] (List.getElem_mem hi)
    have hx0 := h2 t[0] (List.getElem_mem h00)
    have gi := get_some hi
    have li := lt_len hi
    have no : rowOk t[0].length t[i] = false → isTb t = false := fun h => isTb_no hi (by rw [gd]; exact h)
    have yes : rowOk t[0].length t[i] = true → (t.take (i + 1)).all (rowOk (t.getD 0 []).length) = true := fun h => by rw [all_take _ _ _ hi, hI, gd, h]; rfl
    clear gd
    simp -dsimp -implicitDefEqProofs only [pick_nil, pick_cons, look_nil, look_cons, dropB_nil, dropB_cons, inD_nil, inD_cons, inE_nil, inE_cons, or_t_l, or_f_l, Nat.reduceBEq, Nat.reduceDiv, Nat.reduceAdd, beq_self_eq_true, Bool.false_eq_true, Bool.or_false, ↓reduceIte, Nat.reduceEqDiff, List.cons_append, List.nil_append]
    simp -dsimp -implicitDefEqProofs only [go_sem, ↓reduceIte, Nat.reduceEqDiff, Nat.reduceLT, Nat.reduceAdd, Nat.reduceMul, Nat.reduceLeDiff, Nat.le_refl, Int.natCast_zero, Int.toNat_natCast, Int.reduceToNat, li, gi, g0]
    repeat' first
      | (refine Br.intro (fun _ => ?_) (fun _ => ?_) <;> try simp -dsimp -implicitDefEqProofs only [go_sem, ↓reduceIte, Nat.reduceEqDiff, Nat.reduceLT, Nat.reduceAdd, Nat.reduceMul, Nat.reduceLeDiff, Nat.le_refl, Int.natCast_zero, Int.toNat_natCast, Int.reduceToNat, *])
      | (with_reducible refine And.intro ?_ ?_)
      | (refine sCallT_one (c_allWithin t[i] 0 1 (by omega)) ?_; try simp -dsimp -implicitDefEqProofs only [go_sem, ↓reduceIte, Nat.reduceEqDiff, Nat.reduceLT, Nat.reduceAdd, Nat.reduceMul, Nat.reduceLeDiff, Nat.le_refl, Int.natCast_zero, Int.toNat_natCast, Int.reduceToNat, *])
    all_goals first
      | omega
      | (refine ⟨?_, ?_⟩ <;> omega)
      | rfl
      | (simp; done)
      | (rw [no]; clear no yes; simp_all [rowOk]; done) | (rw [no]; clear no yes; simp_all [rowOk]; omega) | (refine yes ?_; clear no yes; simp_all [rowOk]; done) | (refine yes ?_; clear no yes; simp_all [rowOk]; omega)
      | trace_state
  · simp -dsimp -implicitDefEqProofs only [pick_nil, pick_cons, look_nil, look_cons, dropB_nil, dropB_cons, inD_nil, inD_cons, inE_nil, inE_cons, or_t_l, or_f_l, Nat.reduceBEq, Nat.reduceDiv, Nat.reduceAdd, beq_self_eq_true, Bool.false_eq_true, Bool.or_false, ↓reduceIte, Nat.reduceEqDiff, List.cons_append, List.nil_append]
    simp -dsimp -implicitDefEqProofs only [go_sem, ↓reduceIte, Nat.reduceEqDiff, Nat.reduceLT, Nat.reduceAdd, Nat.reduceMul, Nat.reduceLeDiff, Nat.le_refl, Int.natCast_zero, Int.toNat_natCast, Int.reduceToNat, nlt_len]
    rw [List.take_length] at hI
    repeat' first
      | (refine Br.intro (fun _ => ?_) (fun _ => ?_) <;> try simp -dsimp -implicitDefEqProofs only [go_sem, ↓reduceIte, Nat.reduceEqDiff, Nat.reduceLT, Nat.reduceAdd, Nat.reduceMul, Nat.reduceLeDiff, Nat.le_refl, Int.natCast_zero, Int.toNat_natCast, Int.reduceToNat, *])
      | (with_reducible refine And.intro ?_ ?_)
    all_goals first
      | omega
      | (simp_all [isTb]; done)
      | (rename_i hx
         have h3 : 1 ≤ t.length := by have := of_decide_eq_true hx; omega
         have h4 : decide ((t.length : Int) ≤ 10) = decide (t.length ≤ 10) := by rw [decide_eq_decide]; omega
         rw [isTb, hI, decide_eq_true h3, h4, Bool.true_and, Bool.and_true])
      | (rename_i hx
         have h3 : ¬ 1 ≤ t.length := by have := of_decide_eq_false hx; omega
         rw [isTb, decide_eq_false h3]; rfl)
      | trace_state
theorem c_sIsTable (t : List (List Int)) (h : t.length ≤ 1048576) (h2 : ∀ x ∈ t, x.length ≤ 1048576) : Fn Tryd.prog 63 [eIss t] true (· = eB (isTb t)) := by
  refine Fn.of_vcN 52 [.tmp 2] Tryd.func63 rfl rfl rfl rfl rfl (of_decide_eq_true rfl) ?_
  simp -dsimp -implicitDefEqProofs only [go_sem, ↓reduceIte, Nat.reduceEqDiff, Nat.reduceLT, Nat.reduceAdd, Nat.reduceMul, Nat.reduceLeDiff, Nat.le_refl, Int.natCast_zero, Int.toNat_natCast, Int.reduceToNat]
  repeat' first
    | (refine Br.intro (fun _ => ?_) (fun _ => ?_) <;> try simp -dsimp -implicitDefEqProofs only [go_sem, ↓reduceIte, Nat.reduceEqDiff, Nat.reduceLT, Nat.reduceAdd, Nat.reduceMul, Nat.reduceLeDiff, Nat.le_refl, Int.natCast_zero, Int.toNat_natCast, Int.reduceToNat, *])
    | (with_reducible refine And.intro ?_ ?_)
    | (refine sCallT_one (c_l01In _ _ _) ?_; try simp -dsimp -implicitDefEqProofs only [go_sem, ↓reduceIte, Nat.reduceEqDiff, Nat.reduceLT, Nat.reduceAdd, Nat.reduceMul, Nat.reduceLeDiff, Nat.le_refl, Int.natCast_zero, Int.toNat_natCast, Int.reduceToNat, *])
  all_goals try (first | omega | (simp_all [isTb, isIn]; omega))
  rename_i hl
  refine Later.up [0] [11, 19, 23, 30, 31, 39, 50] [] t.length (fun i => (t.take i).all (rowOk (t.getD 0 []).length)) (fun i => [(3, eI i)]) (fun _ => []) (by simp) ?_ rfl (fun i hi hI => ?_) (fun hI => ?_)
  · simp -dsimp -implicitDefEqProofs only [go_sem, ↓reduceIte, Nat.reduceEqDiff, Nat.reduceLT, Nat.reduceAdd, Nat.reduceMul, Nat.reduceLeDiff, Nat.le_refl, Int.natCast_zero, Int.toNat_natCast, Int.reduceToNat]
  · have h00 : 0 < t.length := by omega
    have g0 := get_some h00
    have gd : t.getD 0 [] = t[0] := by simp [List.getD_eq_getElem?_getD, h00]
    have hx := h2 t[i] (List.getElem_mem hi)
    have hx0 := h2 t[0] (List.getElem_mem h00)
    have gi := get_some hi
    have li := lt_len hi
    have no : rowOk t[0].length t[i] = false → isTb t = false := fun h => isTb_no hi (by rw [gd]; exact h)
    have yes : rowOk t[0].length t[i] = true → (t.take (i + 1)).all (rowOk (t.getD 0 []).length) = true := fun h => by rw [all_take _ _ _ hi, hI, gd, h]; rfl
    clear gd hI
    simp -dsimp -implicitDefEqProofs only [pick_nil, pick_cons, look_nil, look_cons, dropB_nil, dropB_cons, inD_nil, inD_cons, inE_nil, inE_cons, or_t_l, or_f_l, Nat.reduceBEq, Nat.reduceDiv, Nat.reduceAdd, beq_self_eq_true, Bool.false_eq_true, Bool.or_false, ↓reduceIte, Nat.reduceEqDiff, List.cons_append, List.nil_append]
    simp -dsimp -implicitDefEqProofs only [go_sem, ↓reduceIte, Nat.reduceEqDiff, Nat.reduceLT, Nat.reduceAdd, Nat.reduceMul, Nat.reduceLeDiff, Nat.le_refl, Int.natCast_zero, Int.toNat_natCast, Int.reduceToNat, li, gi, g0]
    repeat' first
      | (refine Br.intro (fun _ => ?_) (fun _ => ?_) <;> try simp -dsimp -implicitDefEqProofs only [go_sem, ↓reduceIte, Nat.reduceEqDiff, Nat.reduceLT, Nat.reduceAdd, Nat.reduceMul, Nat.reduceLeDiff, Nat.le_refl, Int.natCast_zero, Int.toNat_natCast, Int.reduceToNat, *])
      | (with_reducible refine And.intro ?_ ?_)
      | (refine Later.draw mixed rfl ?_; try simp -dsimp -implicitDefEqProofs only [go_sem, ↓reduceIte, Nat.reduceEqDiff, Nat.reduceLT, Nat.reduceAdd, Nat.reduceMul, Nat.reduceLeDiff, Nat.le_refl, Int.natCast_zero, Int.toNat_natCast, Int.reduceToNat, *])
      | (refine sCallT_one (c_l01In _ _ _) ?_; try simp -dsimp -implicitDefEqProofs only [go_sem, ↓reduceIte, Nat.reduceEqDiff, Nat.reduceLT, Nat.reduceAdd, Nat.reduceMul, Nat.reduceLeDiff, Nat.le_refl, Int.natCast_zero, Int.toNat_natCast, Int.reduceToNat, *])
      | (refine sCallX_one (c_l01In _ _ _) ?_; try simp -dsimp -implicitDefEqProofs only [go_sem, ↓reduceIte, Nat.reduceEqDiff, Nat.reduceLT, Nat.reduceAdd, Nat.reduceMul, Nat.reduceLeDiff, Nat.le_refl, Int.natCast_zero, Int.toNat_natCast, Int.reduceToNat, *])
    all_goals try (first | omega | (refine ⟨?_, ?_⟩ <;> omega) | rfl | (simp; done) | (rw [no]; clear no yes; simp_all [rowOk, isIn]; done) | (rw [no]; clear no yes; simp_all [rowOk, isIn]; omega) | (refine yes ?_; clear no yes; simp_all [rowOk, isIn]; done) | (refine yes ?_; clear no yes; simp_all [rowOk, isIn]; omega))
    refine Later.up [0, 3] [39, 50] [] t[i].length (fun j => (t[i].take j).all (fun x => isIn x 0 1)) (fun j => [(4, eI j)]) (fun _ => []) (by simp) ?_ rfl (fun j hj hJ => ?_) (fun hJ => ?_)
    · simp -dsimp -implicitDefEqProofs only [go_sem, ↓reduceIte, Nat.reduceEqDiff, Nat.reduceLT, Nat.reduceAdd, Nat.reduceMul, Nat.reduceLeDiff, Nat.le_refl, Int.natCast_zero, Int.toNat_natCast, Int.reduceToNat]
    · have gj := get_some hj
      have lj := lt_len hj
      have no1 : isIn t[i][j] 0 1 = false → isTb t = false := fun h => no (by rw [rowOk, all_no (p := fun x => isIn x 0 1) hj h]; simp)
      have yes1 : isIn t[i][j] 0 1 = true → (t[i].take (j + 1)).all (fun x => isIn x 0 1) = true := fun h => by rw [all_take _ _ _ hj, hJ, h]; rfl
      clear no yes
      simp -dsimp -implicitDefEqProofs only [pick_nil, pick_cons, look_nil, look_cons, dropB_nil, dropB_cons, inD_nil, inD_cons, inE_nil, inE_cons, or_t_l, or_f_l, Nat.reduceBEq, Nat.reduceDiv, Nat.reduceAdd, beq_self_eq_true, Bool.false_eq_true, Bool.or_false, ↓reduceIte, Nat.reduceEqDiff, List.cons_append, List.nil_append]
      simp -dsimp -implicitDefEqProofs only [go_sem, ↓reduceIte, Nat.reduceEqDiff, Nat.reduceLT, Nat.reduceAdd, Nat.reduceMul, Nat.reduceLeDiff, Nat.le_refl, Int.natCast_zero, Int.toNat_natCast, Int.reduceToNat, li, gi, gj, lj]
      repeat' first
        | (refine Br.intro (fun _ => ?_) (fun _ => ?_) <;> try simp -dsimp -implicitDefEqProofs only [go_sem, ↓reduceIte, Nat.reduceEqDiff, Nat.reduceLT, Nat.reduceAdd, Nat.reduceMul, Nat.reduceLeDiff, Nat.le_refl, Int.natCast_zero, Int.toNat_natCast, Int.reduceToNat, *])
        | (with_reducible refine And.intro ?_ ?_)
        | (refine sCallT_one (c_l01In _ _ _) ?_; try simp -dsimp -implicitDefEqProofs only [go_sem, ↓reduceIte, Nat.reduceEqDiff, Nat.reduceLT, Nat.reduceAdd, Nat.reduceMul, Nat.reduceLeDiff, Nat.le_refl, Int.natCast_zero, Int.toNat_natCast, Int.reduceToNat, *])
      all_goals first
        | omega
        | (refine ⟨?_, ?_⟩ <;> omega)
        | rfl
        | (simp; done)
        | (rw [no1]; clear no1 yes1; simp_all; done)
        | (refine yes1 ?_; clear no1 yes1; simp_all; done)
        | trace_state
    · simp -dsimp -implicitDefEqProofs only [pick_nil, pick_cons, look_nil, look_cons, dropB_nil, dropB_cons, inD_nil, inD_cons, inE_nil, inE_cons, or_t_l, or_f_l, Nat.reduceBEq, Nat.reduceDiv, Nat.reduceAdd, beq_self_eq_true, Bool.false_eq_true, Bool.or_false, ↓reduceIte, Nat.reduceEqDiff, List.cons_append, List.nil_append]
      rw [List.take_length] at hJ
      simp -dsimp -implicitDefEqProofs only [go_sem, ↓reduceIte, Nat.reduceEqDiff, Nat.reduceLT, Nat.reduceAdd, Nat.reduceMul, Nat.reduceLeDiff, Nat.le_refl, Int.natCast_zero, Int.toNat_natCast, Int.reduceToNat, li, gi, nlt_len]
      repeat' first
        | (refine Br.intro (fun _ => ?_) (fun _ => ?_) <;> try simp -dsimp -implicitDefEqProofs only [go_sem, ↓reduceIte, Nat.reduceEqDiff, Nat.reduceLT, Nat.reduceAdd, Nat.reduceMul, Nat.reduceLeDiff, Nat.le_refl, Int.natCast_zero, Int.toNat_natCast, Int.reduceToNat, *])
        | (with_reducible refine And.intro ?_ ?_)
      all_goals first
        | omega
        | (refine ⟨?_, ?_⟩ <;> omega)
        | rfl
        | (simp; done)
        | (refine yes ?_; clear no yes; simp_all [rowOk, isIn]; done)
        | (refine yes ?_; clear no yes; simp_all [rowOk, isIn]; omega)
        | trace_state
  · simp -dsimp -implicitDefEqProofs only [pick_nil, pick_cons, look_nil, look_cons, dropB_nil, dropB_cons, inD_nil, inD_cons, inE_nil, inE_cons, or_t_l, or_f_l, Nat.reduceBEq, Nat.reduceDiv, Nat.reduceAdd, beq_self_eq_true, Bool.false_eq_true, Bool.or_false, ↓reduceIte, Nat.reduceEqDiff, List.cons_append, List.nil_append]
    simp -dsimp -implicitDefEqProofs only [go_sem, ↓reduceIte, Nat.reduceEqDiff, Nat.reduceLT, Nat.reduceAdd, Nat.reduceMul, Nat.reduceLeDiff, Nat.le_refl, Int.natCast_zero, Int.toNat_natCast, Int.reduceToNat, nlt_len]
    rw [List.take_length] at hI
    first
      | (simp_all [isTb, isIn]; done)
      | (simp_all [isTb, isIn]; omega)
      | trace_state
def doorOpen (t : List (List Int)) (k : Nat) : Bool := t.any fun r => r.getD k 0 == 1
def doorsOpen (t : List (List Int)) : Bool := (List.range (t.getD 0 []).length).all (doorOpen t)
def isSy (m : MkM) (t : List (List Int)) : Bool := isMk m && isTb t && doorsOpen t
theorem isSy_num {m : MkM} {t : List (List Int)} (h : isSy m t = true) : 1 ≤ t.length ∧ t.length ≤ 10 ∧ 1 ≤ (t.getD 0 []).length ∧ (t.getD 0 []).length ≤ 12 ∧ ∀ i (hi : i < t.length), t[i].length = (t.getD 0 []).length := by
  simp only [isSy, Bool.and_eq_true] at h
  exact isTb_num h.1.2
theorem any_take {α : Type} (p : α → Bool) (xs : List α) (i : Nat) (h : i < xs.length) : (xs.take (i + 1)).any p = ((xs.take i).any p || p xs[i]) := by
  rw [List.take_succ_eq_append_getElem h, List.any_append]; simp
def rowsOn (t : List (List Int)) (k : Nat) : List Int := flt (fun i => (t.getD i []).getD k 0 == 1) t.length
theorem rowsOn_nil (t : List (List Int)) (k : Nat) : decide (((rowsOn t k).length : Int) = 0) = !doorOpen t k := by
  have key : ∀ n, n ≤ t.length → ((flt (fun i => (t.getD i []).getD k 0 == 1) n) = [] ↔ (t.take n).any (fun r => r.getD k 0 == 1) = false) := by
    intro n
    induction n with
    | zero => intro _; simp [flt_zero]
    | succ n ih =>
      intro hn
      have h1 := ih (by omega)
      have e : t.getD n [] = t[n] := by simp [List.getD_eq_getElem?_getD, show n < t.length by omega]
      rw [flt_succ, any_take _ _ _ (show n < t.length by omega), Bool.or_eq_false_iff, ← h1, e]
      cases hc : (t[n].getD k 0 == 1) <;> simp
  have h1 := key t.length (Nat.le_refl _)
  rw [List.take_length] at h1
  have h2 : (((rowsOn t k).length : Int) = 0) ↔ rowsOn t k = [] := by rw [← List.length_eq_zero_iff]; omega
  cases hd : doorOpen t k with
  | true =>
    rw [Bool.not_true]
    refine decide_eq_false fun e => ?_
    have := h1.1 (h2.1 e)
    rw [show doorOpen t k = t.any fun r => r.getD k 0 == 1 from rfl, this] at hd; cases hd
  | false =>
    rw [Bool.not_false]
    exact decide_eq_true (h2.2 (h1.2 hd))
theorem c_rowsFor (m : MkM) (t : List (List Int)) (k : Nat) (h : t.length ≤ 1048576) (hk : ∀ i (hi : i < t.length), k < t[i].length) : Fn Tryd.prog 67 [eSy m t, eI k] true (· = eIs (rowsOn t k)) := by
  refine Fn.of_vcN 28 [.tmp 4] Tryd.func67 rfl rfl rfl rfl rfl (of_decide_eq_true rfl) ?_
  simp -dsimp -implicitDefEqProofs only [go_sem, ↓reduceIte, Nat.reduceEqDiff, Nat.reduceLT, Nat.reduceAdd, Nat.reduceMul, Nat.reduceLeDiff, Nat.le_refl, Int.natCast_zero, Int.toNat_natCast, Int.reduceToNat]
  repeat' (with_reducible refine And.intro ?_ ?_)
  all_goals try omega
  refine Later.up [1, 10, 11] [24, 25] [8] t.length (fun _ => True) (fun i => [(12, eI i), (5, .ref 8 0 0 (flt (fun i => (t.getD i []).getD k 0 == 1) i).length)]) (fun i => [(8, .row 0 ⟨1, false⟩ true ((flt (fun i => (t.getD i []).getD k 0 == 1) i).map eI))]) trivial ?_ rfl (fun i hi _ => ?_) (fun _ => ?_)
  · simp -dsimp -implicitDefEqProofs only [go_sem, ↓reduceIte, Nat.reduceEqDiff, Nat.reduceLT, Nat.reduceAdd, Nat.reduceMul, Nat.reduceLeDiff, Nat.le_refl, Int.natCast_zero, Int.toNat_natCast, Int.reduceToNat, flt_zero]
    all_goals simp
  · have hl := flt_len (fun i => (t.getD i []).getD k 0 == 1) i
    have hs := flt_succ (fun i => (t.getD i []).getD k 0 == 1) i
    have hki := hk i hi
    have hp : (t.getD i []).getD k 0 = t[i][k] := by simp [List.getD_eq_getElem?_getD, hi, hki]
    rw [hp] at hs
    clear hp
    have gi := get_some hi
    have gk := get_some hki
    have li := lt_len hi
    simp -dsimp -implicitDefEqProofs only [pick_nil, pick_cons, look_nil, look_cons, dropB_nil, dropB_cons, inD_nil, inD_cons, inE_nil, inE_cons, or_t_l, or_f_l, Nat.reduceBEq, Nat.reduceDiv, Nat.reduceAdd, beq_self_eq_true, Bool.false_eq_true, Bool.or_false, ↓reduceIte, Nat.reduceEqDiff, List.cons_append, List.nil_append]
    rw [hs]
    clear hs
    simp -dsimp -implicitDefEqProofs only [go_sem, ↓reduceIte, Nat.reduceEqDiff, Nat.reduceLT, Nat.reduceAdd, Nat.reduceMul, Nat.reduceLeDiff, Nat.le_refl, Int.natCast_zero, Int.toNat_natCast, Int.reduceToNat, li, gi, gk]
    repeat' first
      | (refine Br.intro (fun _ => ?_) (fun _ => ?_) <;> try simp -dsimp -implicitDefEqProofs only [go_sem, ↓reduceIte, Nat.reduceEqDiff, Nat.reduceLT, Nat.reduceAdd, Nat.reduceMul, Nat.reduceLeDiff, Nat.le_refl, Int.natCast_zero, Int.toNat_natCast, Int.reduceToNat, *])
      | (with_reducible refine And.intro ?_ ?_)
      | (refine Later.draw mixed rfl ?_; try simp -dsimp -implicitDefEqProofs only [go_sem, ↓reduceIte, Nat.reduceEqDiff, Nat.reduceLT, Nat.reduceAdd, Nat.reduceMul, Nat.reduceLeDiff, Nat.le_refl, Int.natCast_zero, Int.toNat_natCast, Int.reduceToNat, *])
    all_goals first
      | omega | (refine ⟨?_, ?_⟩ <;> omega) | (simp; done) | (simp; omega)
      | rfl
      | (simp_all; done)
      | (simp_all; omega)
      | trace_state
  · have hl := flt_len (fun i => (t.getD i []).getD k 0 == 1) t.length
    simp -dsimp -implicitDefEqProofs only [pick_nil, pick_cons, look_nil, look_cons, dropB_nil, dropB_cons, inD_nil, inD_cons, inE_nil, inE_cons, or_t_l, or_f_l, Nat.reduceBEq, Nat.reduceDiv, Nat.reduceAdd, beq_self_eq_true, Bool.false_eq_true, Bool.or_false, ↓reduceIte, Nat.reduceEqDiff, List.cons_append, List.nil_append]
    simp -dsimp -implicitDefEqProofs only [go_sem, ↓reduceIte, Nat.reduceEqDiff, Nat.reduceLT, Nat.reduceAdd, Nat.reduceMul, Nat.reduceLeDiff, Nat.le_refl, Int.natCast_zero, Int.toNat_natCast, Int.reduceToNat, nlt_len]
    repeat' (with_reducible refine And.intro ?_ ?_)
    all_goals first
      | omega | (refine ⟨?_, ?_⟩ <;> omega) | (simp; done) | (simp; omega)
      | rfl
      | (simp [rowsOn]; done)
      | trace_state
theorem c_iIsSystem (m : MkM) (t : List (List Int)) (h : t.length ≤ 1048576) (h2 : ∀ x ∈ t, x.length ≤ 1048576) : Fn Tryd.prog 43 [eSy m t] true (· = eB (isSy m t)) := by
  refine Fn.of_vcN 28 [.tmp 2] Tryd.func43 rfl rfl rfl rfl rfl (of_decide_eq_true rfl) ?_
  rcases hb : (isMk m && isTb t) with _ | _
  · simp -dsimp -implicitDefEqProofs only [go_sem, ↓reduceIte, Nat.reduceEqDiff, Nat.reduceLT, Nat.reduceAdd, Nat.reduceMul, Nat.reduceLeDiff, Nat.le_refl, Int.natCast_zero, Int.toNat_natCast, Int.reduceToNat]
    repeat' first
      | (refine Br.intro (fun _ => ?_) (fun _ => ?_) <;> try simp -dsimp -implicitDefEqProofs only [go_sem, ↓reduceIte, Nat.reduceEqDiff, Nat.reduceLT, Nat.reduceAdd, Nat.reduceMul, Nat.reduceLeDiff, Nat.le_refl, Int.natCast_zero, Int.toNat_natCast, Int.reduceToNat, *])
      | (with_reducible refine And.intro ?_ ?_)
      | (refine sCallT_one (c_iIsMaker m) ?_; try simp -dsimp -implicitDefEqProofs only [go_sem, ↓reduceIte, Nat.reduceEqDiff, Nat.reduceLT, Nat.reduceAdd, Nat.reduceMul, Nat.reduceLeDiff, Nat.le_refl, Int.natCast_zero, Int.toNat_natCast, Int.reduceToNat, *])
      | (refine sCallT_one (c_iIsTable t h h2) ?_; try simp -dsimp -implicitDefEqProofs only [go_sem, ↓reduceIte, Nat.reduceEqDiff, Nat.reduceLT, Nat.reduceAdd, Nat.reduceMul, Nat.reduceLeDiff, Nat.le_refl, Int.natCast_zero, Int.toNat_natCast, Int.reduceToNat, *])
    all_goals first
      | omega
      | (simp_all [isSy]; done)
      | trace_state
  obtain ⟨hb1, hb2⟩ := Bool.and_eq_true_iff.1 hb
  obtain ⟨n1, n2, n3, n4, n5⟩ := isTb_num hb2
  have h00 : 0 < t.length := by omega
  have g0 := get_some h00
  have gd : t.getD 0 [] = t[0] := by simp [List.getD_eq_getElem?_getD, h00]
  rw [gd] at n3 n4 n5
  simp -dsimp -implicitDefEqProofs only [go_sem, ↓reduceIte, Nat.reduceEqDiff, Nat.reduceLT, Nat.reduceAdd, Nat.reduceMul, Nat.reduceLeDiff, Nat.le_refl, Int.natCast_zero, Int.toNat_natCast, Int.reduceToNat, g0]
  repeat' first
    | (refine Br.intro (fun _ => ?_) (fun _ => ?_) <;> try simp -dsimp -implicitDefEqProofs only [go_sem, ↓reduceIte, Nat.reduceEqDiff, Nat.reduceLT, Nat.reduceAdd, Nat.reduceMul, Nat.reduceLeDiff, Nat.le_refl, Int.natCast_zero, Int.toNat_natCast, Int.reduceToNat, *])
    | (with_reducible refine And.intro ?_ ?_)
    | (refine sCallT_one (c_iIsMaker m) ?_; try simp -dsimp -implicitDefEqProofs only [go_sem, ↓reduceIte, Nat.reduceEqDiff, Nat.reduceLT, Nat.reduceAdd, Nat.reduceMul, Nat.reduceLeDiff, Nat.le_refl, Int.natCast_zero, Int.toNat_natCast, Int.reduceToNat, *])
    | (refine sCallT_one (c_iIsTable t h h2) ?_; try simp -dsimp -implicitDefEqProofs only [go_sem, ↓reduceIte, Nat.reduceEqDiff, Nat.reduceLT, Nat.reduceAdd, Nat.reduceMul, Nat.reduceLeDiff, Nat.le_refl, Int.natCast_zero, Int.toNat_natCast, Int.reduceToNat, *])
  all_goals try (first | omega | (simp_all; done))
  refine Later.up [1, 18] [24, 25] [] t[0].length (fun i => (List.range i).all (doorOpen t)) (fun i => [(19, eI i)]) (fun _ => []) (by simp) ?_ rfl (fun i hi hI => ?_) (fun hI => ?_)
  · simp -dsimp -implicitDefEqProofs only [go_sem, ↓reduceIte, Nat.reduceEqDiff, Nat.reduceLT, Nat.reduceAdd, Nat.reduceMul, Nat.reduceLeDiff, Nat.le_refl, Int.natCast_zero, Int.toNat_natCast, Int.reduceToNat, g0]
  · have no : doorOpen t i = false → isSy m t = false := fun h => by
      have : doorsOpen t = false := by rw [doorsOpen, gd]; exact range_all_no hi h
      simp [isSy, this]
    have yes : doorOpen t i = true → (List.range (i + 1)).all (doorOpen t) = true := fun h => by rw [range_all_succ, hI, h]; rfl
    have hr := rowsOn_nil t i
    clear hI gd
    simp -dsimp -implicitDefEqProofs only [pick_nil, pick_cons, look_nil, look_cons, dropB_nil, dropB_cons, inD_nil, inD_cons, inE_nil, inE_cons, or_t_l, or_f_l, Nat.reduceBEq, Nat.reduceDiv, Nat.reduceAdd, beq_self_eq_true, Bool.false_eq_true, Bool.or_false, ↓reduceIte, Nat.reduceEqDiff, List.cons_append, List.nil_append]
    simp -dsimp -implicitDefEqProofs only [go_sem, ↓reduceIte, Nat.reduceEqDiff, Nat.reduceLT, Nat.reduceAdd, Nat.reduceMul, Nat.reduceLeDiff, Nat.le_refl, Int.natCast_zero, Int.toNat_natCast, Int.reduceToNat, lt_len hi, hr]
    repeat' first
      | (refine Br.intro (fun _ => ?_) (fun _ => ?_) <;> try simp -dsimp -implicitDefEqProofs only [go_sem, ↓reduceIte, Nat.reduceEqDiff, Nat.reduceLT, Nat.reduceAdd, Nat.reduceMul, Nat.reduceLeDiff, Nat.le_refl, Int.natCast_zero, Int.toNat_natCast, Int.reduceToNat, *])
      | (with_reducible refine And.intro ?_ ?_)
      | (refine sCallT_one (c_rowsFor m t i h (fun j hj => by rw [n5 j hj]; exact hi)) ?_; try simp -dsimp -implicitDefEqProofs only [go_sem, ↓reduceIte, Nat.reduceEqDiff, Nat.reduceLT, Nat.reduceAdd, Nat.reduceMul, Nat.reduceLeDiff, Nat.le_refl, Int.natCast_zero, Int.toNat_natCast, Int.reduceToNat, lt_len hi, hr])
    all_goals first
      | omega
      | (refine ⟨?_, ?_⟩ <;> omega)
      | rfl
      | (simp; done)
      | (rw [no]; clear no yes; simp_all; done)
      | (rw [← List.range_succ]; refine yes ?_; clear no yes; simp_all; done)
      | trace_state
  · simp -dsimp -implicitDefEqProofs only [pick_nil, pick_cons, look_nil, look_cons, dropB_nil, dropB_cons, inD_nil, inD_cons, inE_nil, inE_cons, or_t_l, or_f_l, Nat.reduceBEq, Nat.reduceDiv, Nat.reduceAdd, beq_self_eq_true, Bool.false_eq_true, Bool.or_false, ↓reduceIte, Nat.reduceEqDiff, List.cons_append, List.nil_append]
    simp -dsimp -implicitDefEqProofs only [go_sem, ↓reduceIte, Nat.reduceEqDiff, Nat.reduceLT, Nat.reduceAdd, Nat.reduceMul, Nat.reduceLeDiff, Nat.le_refl, Int.natCast_zero, Int.toNat_natCast, Int.reduceToNat, nlt_len]
    first
      | (rw [isSy, hb1, hb2, doorsOpen, gd, hI]; rfl)
      | trace_state
theorem c_sIsSystem (m : MkM) (t : List (List Int)) (h : t.length ≤ 1048576) (h2 : ∀ x ∈ t, x.length ≤ 1048576) : Fn Tryd.prog 39 [eSy m t] true (· = eB (isSy m t)) := by
  refine Fn.of_vcN 46 [.tmp 2] Tryd.func39 rfl rfl rfl rfl rfl (of_decide_eq_true rfl) ?_
  rcases hb : (isMk m && isTb t) with _ | _
  · simp -dsimp -implicitDefEqProofs only [go_sem, ↓reduceIte, Nat.reduceEqDiff, Nat.reduceLT, Nat.reduceAdd, Nat.reduceMul, Nat.reduceLeDiff, Nat.le_refl, Int.natCast_zero, Int.toNat_natCast, Int.reduceToNat]
    repeat' first
      | (refine Br.intro (fun _ => ?_) (fun _ => ?_) <;> try simp -dsimp -implicitDefEqProofs only [go_sem, ↓reduceIte, Nat.reduceEqDiff, Nat.reduceLT, Nat.reduceAdd, Nat.reduceMul, Nat.reduceLeDiff, Nat.le_refl, Int.natCast_zero, Int.toNat_natCast, Int.reduceToNat, *])
      | (with_reducible refine And.intro ?_ ?_)
      | (refine sCallT_one (c_sIsMaker m) ?_; try simp -dsimp -implicitDefEqProofs only [go_sem, ↓reduceIte, Nat.reduceEqDiff, Nat.reduceLT, Nat.reduceAdd, Nat.reduceMul, Nat.reduceLeDiff, Nat.le_refl, Int.natCast_zero, Int.toNat_natCast, Int.reduceToNat, *])
      | (refine sCallT_one (c_sIsTable t h h2) ?_; try simp -dsimp -implicitDefEqProofs only [go_sem, ↓reduceIte, Nat.reduceEqDiff, Nat.reduceLT, Nat.reduceAdd, Nat.reduceMul, Nat.reduceLeDiff, Nat.le_refl, Int.natCast_zero, Int.toNat_natCast, Int.reduceToNat, *])
    all_goals first
      | omega
      | (simp_all [isSy]; done)
      | trace_state
  obtain ⟨hb1, hb2⟩ := Bool.and_eq_true_iff.1 hb
  obtain ⟨n1, n2, n3, n4, n5⟩ := isTb_num hb2
  have h00 : 0 < t.length := by omega
  have g0 := get_some h00
  have gd : t.getD 0 [] = t[0] := by simp [List.getD_eq_getElem?_getD, h00]
  rw [gd] at n3 n4 n5
  simp -dsimp -implicitDefEqProofs only [go_sem, ↓reduceIte, Nat.reduceEqDiff, Nat.reduceLT, Nat.reduceAdd, Nat.reduceMul, Nat.reduceLeDiff, Nat.le_refl, Int.natCast_zero, Int.toNat_natCast, Int.reduceToNat, g0]
  repeat' first
    | (refine Br.intro (fun _ => ?_) (fun _ => ?_) <;> try simp -dsimp -implicitDefEqProofs only [go_sem, ↓reduceIte, Nat.reduceEqDiff, Nat.reduceLT, Nat.reduceAdd, Nat.reduceMul, Nat.reduceLeDiff, Nat.le_refl, Int.natCast_zero, Int.toNat_natCast, Int.reduceToNat, *])
    | (with_reducible refine And.intro ?_ ?_)
    | (refine sCallT_one (c_sIsMaker m) ?_; try simp -dsimp -implicitDefEqProofs only [go_sem, ↓reduceIte, Nat.reduceEqDiff, Nat.reduceLT, Nat.reduceAdd, Nat.reduceMul, Nat.reduceLeDiff, Nat.le_refl, Int.natCast_zero, Int.toNat_natCast, Int.reduceToNat, *])
    | (refine sCallT_one (c_sIsTable t h h2) ?_; try simp -dsimp -implicitDefEqProofs only [go_sem, ↓reduceIte, Nat.reduceEqDiff, Nat.reduceLT, Nat.reduceAdd, Nat.reduceMul, Nat.reduceLeDiff, Nat.le_refl, Int.natCast_zero, Int.toNat_natCast, Int.reduceToNat, *])
  all_goals try (first | omega | (simp_all; done))
  refine Later.up [1] [21, 28] [] t[0].length (fun i => (List.range i).all (doorOpen t)) (fun i => [(3, eI i)]) (fun _ => []) (by simp) ?_ rfl (fun i hi hI => ?_) (fun hI => ?_)
  · simp -dsimp -implicitDefEqProofs only [go_sem, ↓reduceIte, Nat.reduceEqDiff, Nat.reduceLT, Nat.reduceAdd, Nat.reduceMul, Nat.reduceLeDiff, Nat.le_refl, Int.natCast_zero, Int.toNat_natCast, Int.reduceToNat, g0]
  · have no : doorOpen t i = false → isSy m t = false := fun h => by
      have : doorsOpen t = false := by rw [doorsOpen, gd]; exact range_all_no hi h
      simp [isSy, this]
    have yes : doorOpen t i = true → (List.range (i + 1)).all (doorOpen t) = true := fun h => by rw [range_all_succ, hI, h]; rfl
    clear hI gd
    simp -dsimp -implicitDefEqProofs only [pick_nil, pick_cons, look_nil, look_cons, dropB_nil, dropB_cons, inD_nil, inD_cons, inE_nil, inE_cons, or_t_l, or_f_l, Nat.reduceBEq, Nat.reduceDiv, Nat.reduceAdd, beq_self_eq_true, Bool.false_eq_true, Bool.or_false, ↓reduceIte, Nat.reduceEqDiff, List.cons_append, List.nil_append]
    simp -dsimp -implicitDefEqProofs only [go_sem, ↓reduceIte, Nat.reduceEqDiff, Nat.reduceLT, Nat.reduceAdd, Nat.reduceMul, Nat.reduceLeDiff, Nat.le_refl, Int.natCast_zero, Int.toNat_natCast, Int.reduceToNat, lt_len hi, g0]
    repeat' first
      | (refine Br.intro (fun _ => ?_) (fun _ => ?_) <;> try simp -dsimp -implicitDefEqProofs only [go_sem, ↓reduceIte, Nat.reduceEqDiff, Nat.reduceLT, Nat.reduceAdd, Nat.reduceMul, Nat.reduceLeDiff, Nat.le_refl, Int.natCast_zero, Int.toNat_natCast, Int.reduceToNat, *])
      | (with_reducible refine And.intro ?_ ?_)
    all_goals try (first | omega | rfl | (simp; done))
    refine Later.up [1, 3] [28] [] t.length (fun _ => True) (fun j => [(5, eI j), (4, eB ((t.take j).any fun r => r.getD i 0 == 1))]) (fun _ => []) trivial ?_ rfl (fun j hj _ => ?_) (fun _ => ?_)
    · simp -dsimp -implicitDefEqProofs only [go_sem, ↓reduceIte, Nat.reduceEqDiff, Nat.reduceLT, Nat.reduceAdd, Nat.reduceMul, Nat.reduceLeDiff, Nat.le_refl, Int.natCast_zero, Int.toNat_natCast, Int.reduceToNat, List.take_zero, List.any_nil]
    · have gj := get_some hj
      have lj := lt_len hj
      have hij : i < t[j].length := by rw [n5 j hj]; exact hi
      have gij := get_some hij
      have ha := any_take (fun r => r.getD i 0 == 1) t j hj
      have he : t[j].getD i 0 = t[j][i] := by simp [List.getD_eq_getElem?_getD, hij]
      rw [he] at ha
      clear he no yes
      simp -dsimp -implicitDefEqProofs only [pick_nil, pick_cons, look_nil, look_cons, dropB_nil, dropB_cons, inD_nil, inD_cons, inE_nil, inE_cons, or_t_l, or_f_l, Nat.reduceBEq, Nat.reduceDiv, Nat.reduceAdd, beq_self_eq_true, Bool.false_eq_true, Bool.or_false, ↓reduceIte, Nat.reduceEqDiff, List.cons_append, List.nil_append]
      rw [ha]
      clear ha
      simp -dsimp -implicitDefEqProofs only [go_sem, ↓reduceIte, Nat.reduceEqDiff, Nat.reduceLT, Nat.reduceAdd, Nat.reduceMul, Nat.reduceLeDiff, Nat.le_refl, Int.natCast_zero, Int.toNat_natCast, Int.reduceToNat, gj, lj, gij]
      repeat' first
        | (refine Br.intro (fun _ => ?_) (fun _ => ?_) <;> try simp -dsimp -implicitDefEqProofs only [go_sem, ↓reduceIte, Nat.reduceEqDiff, Nat.reduceLT, Nat.reduceAdd, Nat.reduceMul, Nat.reduceLeDiff, Nat.le_refl, Int.natCast_zero, Int.toNat_natCast, Int.reduceToNat, *])
        | (with_reducible refine And.intro ?_ ?_)
        | (refine Later.draw mixed rfl ?_; try simp -dsimp -implicitDefEqProofs only [go_sem, ↓reduceIte, Nat.reduceEqDiff, Nat.reduceLT, Nat.reduceAdd, Nat.reduceMul, Nat.reduceLeDiff, Nat.le_refl, Int.natCast_zero, Int.toNat_natCast, Int.reduceToNat, *])
      all_goals first
        | omega
        | (refine ⟨?_, ?_⟩ <;> omega)
        | rfl
        | (simp; done)
        | (simp_all; done)
        | trace_state
    · simp -dsimp -implicitDefEqProofs only [pick_nil, pick_cons, look_nil, look_cons, dropB_nil, dropB_cons, inD_nil, inD_cons, inE_nil, inE_cons, or_t_l, or_f_l, Nat.reduceBEq, Nat.reduceDiv, Nat.reduceAdd, beq_self_eq_true, Bool.false_eq_true, Bool.or_false, ↓reduceIte, Nat.reduceEqDiff, List.cons_append, List.nil_append]
      simp -dsimp -implicitDefEqProofs only [go_sem, ↓reduceIte, Nat.reduceEqDiff, Nat.reduceLT, Nat.reduceAdd, Nat.reduceMul, Nat.reduceLeDiff, Nat.le_refl, Int.natCast_zero, Int.toNat_natCast, Int.reduceToNat, nlt_len]
      rw [List.take_length]
      have hd : (t.any fun r => r.getD i 0 == 1) = doorOpen t i := rfl
      rw [hd]
      repeat' first
        | (refine Br.intro (fun _ => ?_) (fun _ => ?_) <;> try simp -dsimp -implicitDefEqProofs only [go_sem, ↓reduceIte, Nat.reduceEqDiff, Nat.reduceLT, Nat.reduceAdd, Nat.reduceMul, Nat.reduceLeDiff, Nat.le_refl, Int.natCast_zero, Int.toNat_natCast, Int.reduceToNat, *])
        | (with_reducible refine And.intro ?_ ?_)
      all_goals first
        | omega
        | (refine ⟨?_, ?_⟩ <;> omega)
        | rfl
        | (simp; done)
        | (rw [no]; clear no yes; simp_all; done)
        | (rw [← List.range_succ]; refine yes ?_; clear no yes; simp_all; done)
        | trace_state
  · simp -dsimp -implicitDefEqProofs only [pick_nil, pick_cons, look_nil, look_cons, dropB_nil, dropB_cons, inD_nil, inD_cons, inE_nil, inE_cons, or_t_l, or_f_l, Nat.reduceBEq, Nat.reduceDiv, Nat.reduceAdd, beq_self_eq_true, Bool.false_eq_true, Bool.or_false, ↓reduceIte, Nat.reduceEqDiff, List.cons_append, List.nil_append]
    simp -dsimp -implicitDefEqProofs only [go_sem, ↓reduceIte, Nat.reduceEqDiff, Nat.reduceLT, Nat.reduceAdd, Nat.reduceMul, Nat.reduceLeDiff, Nat.le_refl, Int.natCast_zero, Int.toNat_natCast, Int.reduceToNat, nlt_len, g0]
    repeat' (with_reducible refine And.intro ?_ ?_)
    all_goals first
      | omega
      | (rw [isSy, hb1, hb2, doorsOpen, gd, hI]; rfl)
      | trace_state
end Go.Vc
