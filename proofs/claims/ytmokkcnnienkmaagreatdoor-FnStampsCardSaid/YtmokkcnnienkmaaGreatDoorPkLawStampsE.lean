import Derived.Test.YtmokkcnnienkmaaGreatDoorPkLawStampsD
/-
  Contracts: whether cuts are a key of a maker.
-/
set_option linter.unusedVariables false
set_option linter.unusedSimpArgs false
set_option linter.unnecessarySimpa false
namespace Go.Vc
open Go.Proofs
set_option maxRecDepth 100000
set_option maxHeartbeats 2000000
theorem c_l02CutsK (m : MkM) (c : List Int) (hm : isMk m = true) (h : c.length ≤ 1048576) : Fn Tryz.prog 101 [eMk m, eIs c] true (· = eB ((c.all fun x => isIn x 0 (m.depths - 1)) && ((c.length : Int) == m.chambers))) := by
  refine Fn.of_vcN 26 [.tmp 4] Tryz.func101 rfl rfl rfl rfl rfl (of_decide_eq_true rfl) ?_
  have hb := isMk_num hm
  simp -dsimp -implicitDefEqProofs only [go_sem, ↓reduceIte, Nat.reduceEqDiff, Nat.reduceLT, Nat.reduceAdd, Nat.reduceMul, Nat.reduceLeDiff, Nat.le_refl, Int.natCast_zero, Int.toNat_natCast, Int.reduceToNat]
  refine Later.up [1, 2] [8, 19] [] c.length (fun i => (c.take i).all (fun x => isIn x 0 (m.depths - 1))) (fun i => [(5, eI i)]) (fun _ => []) (by simp) ?_ rfl (fun i hi hI => ?_) (fun hI => ?_)
  · simp -dsimp -implicitDefEqProofs only [go_sem, ↓reduceIte, Nat.reduceEqDiff, Nat.reduceLT, Nat.reduceAdd, Nat.reduceMul, Nat.reduceLeDiff, Nat.le_refl, Int.natCast_zero, Int.toNat_natCast, Int.reduceToNat]
  · have gi := get_some hi
    have li := lt_len hi
    have no : isIn c[i] 0 (m.depths - 1) = false → (c.all fun x => isIn x 0 (m.depths - 1)) = false := fun h => all_no (p := fun x => isIn x 0 (m.depths - 1)) hi h
    have yes : isIn c[i] 0 (m.depths - 1) = true → (c.take (i + 1)).all (fun x => isIn x 0 (m.depths - 1)) = true := fun h => by rw [all_take _ _ _ hi, hI, h]; rfl
    simp -dsimp -implicitDefEqProofs only [pick_nil, pick_cons, look_nil, look_cons, dropB_nil, dropB_cons, inD_nil, inD_cons, inE_nil, inE_cons, or_t_l, or_f_l, Nat.reduceBEq, Nat.reduceDiv, Nat.reduceAdd, beq_self_eq_true, Bool.false_eq_true, Bool.or_false, ↓reduceIte, Nat.reduceEqDiff, List.cons_append, List.nil_append]
    simp -dsimp -implicitDefEqProofs only [go_sem, ↓reduceIte, Nat.reduceEqDiff, Nat.reduceLT, Nat.reduceAdd, Nat.reduceMul, Nat.reduceLeDiff, Nat.le_refl, Int.natCast_zero, Int.toNat_natCast, Int.reduceToNat, li, gi]
    repeat' first
      | (refine Br.intro (fun _ => ?_) (fun _ => ?_) <;> try simp -dsimp -implicitDefEqProofs only [go_sem, ↓reduceIte, Nat.reduceEqDiff, Nat.reduceLT, Nat.reduceAdd, Nat.reduceMul, Nat.reduceLeDiff, Nat.le_refl, Int.natCast_zero, Int.toNat_natCast, Int.reduceToNat, *])
      | (with_reducible refine And.intro ?_ ?_)
      | (refine Later.draw mixed rfl ?_; try simp -dsimp -implicitDefEqProofs only [go_sem, ↓reduceIte, Nat.reduceEqDiff, Nat.reduceLT, Nat.reduceAdd, Nat.reduceMul, Nat.reduceLeDiff, Nat.le_refl, Int.natCast_zero, Int.toNat_natCast, Int.reduceToNat, *])
      | (refine sCallX_one (c_l01In _ _ _) ?_; try simp -dsimp -implicitDefEqProofs only [go_sem, ↓reduceIte, Nat.reduceEqDiff, Nat.reduceLT, Nat.reduceAdd, Nat.reduceMul, Nat.reduceLeDiff, Nat.le_refl, Int.natCast_zero, Int.toNat_natCast, Int.reduceToNat, *])
    all_goals first
      | omega
      | (refine ⟨?_, ?_⟩ <;> omega)
      | rfl
      | (simp; done)
      | (rw [no (by simp_all)]; rfl)
      | (refine yes ?_; simp_all; done)
      | trace_state
  · simp -dsimp -implicitDefEqProofs only [pick_nil, pick_cons, look_nil, look_cons, dropB_nil, dropB_cons, inD_nil, inD_cons, inE_nil, inE_cons, or_t_l, or_f_l, Nat.reduceBEq, Nat.reduceDiv, Nat.reduceAdd, beq_self_eq_true, Bool.false_eq_true, Bool.or_false, ↓reduceIte, Nat.reduceEqDiff, List.cons_append, List.nil_append]
    rw [List.take_length] at hI
    simp -dsimp -implicitDefEqProofs only [go_sem, ↓reduceIte, Nat.reduceEqDiff, Nat.reduceLT, Nat.reduceAdd, Nat.reduceMul, Nat.reduceLeDiff, Nat.le_refl, Int.natCast_zero, Int.toNat_natCast, Int.reduceToNat, nlt_len]
    rw [hI]
    rfl
theorem c_areCutsK (m : MkM) (c : List Int) (hm : isMk m = true) (h : c.length ≤ 1048576) : Fn Tryz.prog 172 [eMk m, eIs c] true (· = eB (((c.length : Int) == m.chambers) && (c.all fun x => isIn x 0 (m.depths - 1)))) := by
  refine Fn.of_vcN 17 [.tmp 4] Tryz.func172 rfl rfl rfl rfl rfl (of_decide_eq_true rfl) ?_
  have hb := isMk_num hm
  simp -dsimp -implicitDefEqProofs only [go_sem, ↓reduceIte, Nat.reduceEqDiff, Nat.reduceLT, Nat.reduceAdd, Nat.reduceMul, Nat.reduceLeDiff, Nat.le_refl, Int.natCast_zero, Int.toNat_natCast, Int.reduceToNat]
  repeat' first
    | (refine Br.intro (fun _ => ?_) (fun _ => ?_) <;> try simp -dsimp -implicitDefEqProofs only [go_sem, ↓reduceIte, Nat.reduceEqDiff, Nat.reduceLT, Nat.reduceAdd, Nat.reduceMul, Nat.reduceLeDiff, Nat.le_refl, Int.natCast_zero, Int.toNat_natCast, Int.reduceToNat, *])
    | (with_reducible refine And.intro ?_ ?_)
    | (refine sCallT_one (c_allWithin c 0 (m.depths - 1) (by omega)) ?_; try simp -dsimp -implicitDefEqProofs only [go_sem, ↓reduceIte, Nat.reduceEqDiff, Nat.reduceLT, Nat.reduceAdd, Nat.reduceMul, Nat.reduceLeDiff, Nat.le_refl, Int.natCast_zero, Int.toNat_natCast, Int.reduceToNat, *])
  all_goals first
    | omega
    | (refine ⟨?_, ?_⟩ <;> omega)
    | (simp_all; done)
    | trace_state
theorem elem_in {m : MkM} {c : List Int} (hm : isMk m = true) (ha : (c.all fun x => isIn x 0 (m.depths - 1)) = true) (i : Nat) (hi : i < c.length) : 0 ≤ c[i] ∧ c[i] ≤ 7 := by
  have := isMk_num hm
  rw [List.all_eq_true] at ha
  have := ha _ (List.getElem_mem hi)
  simp [isIn] at this
  omega
theorem isMk_same {m : MkM} (h : isMk m = true) : 1 ≤ m.same ∧ m.same ≤ 6 ∧ 1 ≤ m.least ∧ 1 ≤ m.step := by
  simp only [isMk, Bool.and_eq_true, isIn, decide_eq_true_eq] at h
  omega
theorem c_l02Fault (m : MkM) (c : List Int) (hm : isMk m = true) (h : c.length ≤ 1048576) : Fn Tryz.prog 53 [eMk m, eIs c] true (· = eI (fault m c)) := by
  refine Fn.of_vcN 71 [.tmp 4] Tryz.func53 rfl rfl rfl rfl rfl (of_decide_eq_true rfl) ?_
  rcases hl : ((c.length : Int) == m.chambers) with _ | _
  · have hF : fault m c = 1 := by rw [fault, if_pos (by simpa using hl)]
    rw [hF]
    simp -dsimp -implicitDefEqProofs only [go_sem, ↓reduceIte, Nat.reduceEqDiff, Nat.reduceLT, Nat.reduceAdd, Nat.reduceMul, Nat.reduceLeDiff, Nat.le_refl, Int.natCast_zero, Int.toNat_natCast, Int.reduceToNat, hl]
    repeat' first
      | (refine Br.intro (fun _ => ?_) (fun _ => ?_) <;> try simp -dsimp -implicitDefEqProofs only [go_sem, ↓reduceIte, Nat.reduceEqDiff, Nat.reduceLT, Nat.reduceAdd, Nat.reduceMul, Nat.reduceLeDiff, Nat.le_refl, Int.natCast_zero, Int.toNat_natCast, Int.reduceToNat, *])
      | (with_reducible refine And.intro ?_ ?_)
    all_goals (first | omega | (refine ⟨?_, ?_⟩ <;> omega) | (simp; done) | (simp; omega) | (refine ⟨?_, ?_⟩ <;> omega) | rfl | (simp; done) | (simp_all; done) | (simp_all; omega) | (exfalso; simp_all [bne]; done) | trace_state)
  have hle : ¬ (c.length : Int) ≠ m.chambers := by simpa using hl
  rcases ha : (c.all fun x => isIn x 0 (m.depths - 1)) with _ | _
  · have hF : fault m c = 2 := by rw [fault, if_neg hle, if_pos ha]
    have hc := c_l02CutsK m c hm h
    rw [ha, hl] at hc
    rw [hF]
    clear hF ha hle
    simp -dsimp -implicitDefEqProofs only [go_sem, ↓reduceIte, Nat.reduceEqDiff, Nat.reduceLT, Nat.reduceAdd, Nat.reduceMul, Nat.reduceLeDiff, Nat.le_refl, Int.natCast_zero, Int.toNat_natCast, Int.reduceToNat, hl]
    repeat' first
      | (refine Br.intro (fun _ => ?_) (fun _ => ?_) <;> try simp -dsimp -implicitDefEqProofs only [go_sem, ↓reduceIte, Nat.reduceEqDiff, Nat.reduceLT, Nat.reduceAdd, Nat.reduceMul, Nat.reduceLeDiff, Nat.le_refl, Int.natCast_zero, Int.toNat_natCast, Int.reduceToNat, *])
      | (with_reducible refine And.intro ?_ ?_)
      | (refine sCallT_one (hc) ?_; try simp -dsimp -implicitDefEqProofs only [go_sem, ↓reduceIte, Nat.reduceEqDiff, Nat.reduceLT, Nat.reduceAdd, Nat.reduceMul, Nat.reduceLeDiff, Nat.le_refl, Int.natCast_zero, Int.toNat_natCast, Int.reduceToNat, *])
    all_goals (first | omega | (refine ⟨?_, ?_⟩ <;> omega) | (simp; done) | (simp; omega) | (refine ⟨?_, ?_⟩ <;> omega) | rfl | (simp; done) | (simp_all; done) | (simp_all; omega) | (exfalso; simp_all [bne]; done) | trace_state)
  have hF : fault m c = if ((List.range c.length).all (stepAt m c)) = false then 3 else if ((List.range c.length).all fun i => decide ((runAt c i : Int) ≤ m.same)) = false then 4 else if (kindsTo c c.length : Int) < m.least then 5 else 0 := by
    rw [fault, if_neg hle, if_neg (by simp [ha])]
  have hc := c_l02CutsK m c hm h
  rw [ha, hl] at hc
  have hel := elem_in hm ha
  have hsm := isMk_same hm
  have hkl := kindsTo_le c c.length
  have hch : c.length ≤ 6 := by have := isMk_num hm; omega
  clear ha hle
  simp -dsimp -implicitDefEqProofs only [go_sem, ↓reduceIte, Nat.reduceEqDiff, Nat.reduceLT, Nat.reduceAdd, Nat.reduceMul, Nat.reduceLeDiff, Nat.le_refl, Int.natCast_zero, Int.toNat_natCast, Int.reduceToNat, hl]
  repeat' first
    | (refine Br.intro (fun _ => ?_) (fun _ => ?_) <;> try simp -dsimp -implicitDefEqProofs only [go_sem, ↓reduceIte, Nat.reduceEqDiff, Nat.reduceLT, Nat.reduceAdd, Nat.reduceMul, Nat.reduceLeDiff, Nat.le_refl, Int.natCast_zero, Int.toNat_natCast, Int.reduceToNat, *])
    | (with_reducible refine And.intro ?_ ?_)
    | (refine sCallT_one (hc) ?_; try simp -dsimp -implicitDefEqProofs only [go_sem, ↓reduceIte, Nat.reduceEqDiff, Nat.reduceLT, Nat.reduceAdd, Nat.reduceMul, Nat.reduceLeDiff, Nat.le_refl, Int.natCast_zero, Int.toNat_natCast, Int.reduceToNat, *])
  all_goals try (first | omega | (simp; done) | (simp_all; done))
  clear hl hc
  refine Later.up [1, 2] [19, 36, 59] [] c.length (fun i => (List.range i).all (stepAt m c)) (fun i => [(7, eI i), (5, eI (runTo c i)), (6, eI (mostTo c i))]) (fun _ => []) (by simp) ?_ rfl (fun i hi hI => ?_) (fun hI => ?_)
  · have h0 : mostTo c 0 = 0 := by unfold mostTo; rfl
    rw [show runTo c 0 = 0 from rfl, h0]
    simp -dsimp -implicitDefEqProofs only [go_sem, ↓reduceIte, Nat.reduceEqDiff, Nat.reduceLT, Nat.reduceAdd, Nat.reduceMul, Nat.reduceLeDiff, Nat.le_refl, Int.natCast_zero, Int.toNat_natCast, Int.reduceToNat]
    all_goals (first | omega | (refine ⟨?_, ?_⟩ <;> omega) | (simp; done) | (simp; omega) | (refine ⟨?_, ?_⟩ <;> omega) | rfl | (simp; done) | (simp_all; done) | (simp_all; omega) | (exfalso; simp_all [bne]; done) | trace_state)
  · have no : stepAt m c i = false → fault m c = 3 := fun h => by rw [hF, if_pos (range_all_no hi h)]
    have yes : stepAt m c i = true → (List.range (i + 1)).all (stepAt m c) = true := fun h => by rw [range_all_succ, hI, h]; rfl
    have hM : ((mostTo c (i + 1) : Nat) : Int) = if ((runTo c (i + 1) : Nat) : Int) > (mostTo c i : Int) then ((runTo c (i + 1) : Nat) : Int) else (mostTo c i : Int) := by
      rw [show runTo c (i + 1) = runAt c i from rfl]
      show ((mostTo c (i + 1) : Nat) : Int) = _
      rw [show mostTo c (i + 1) = if mostTo c i < runAt c i then runAt c i else mostTo c i by rw [mostTo]]
      by_cases hlt : mostTo c i < runAt c i
      · rw [if_pos hlt, if_pos (by omega)]
      · rw [if_neg hlt, if_neg (by omega)]
    have hrb : runTo c i ≤ i ∧ runTo c (i + 1) ≤ i + 1 := by
      refine ⟨?_, (runAt_spec c i).2.1⟩
      rw [runTo]; split
      · omega
      · have := (runAt_spec c (i - 1)).2.1; omega
    have hmb : mostTo c i ≤ c.length := by
      have key : ∀ n, mostTo c n ≤ n := fun n => by
        induction n with
        | zero => unfold mostTo; omega
        | succ n ih => rw [mostTo]; have := (runAt_spec c n).2.1; split <;> omega
      have := key i; omega
    have e1 := hel i hi
    have gi := get_some hi
    have li := lt_len hi
    clear hF hI
    generalize mostTo c i = M at hM hmb
    generalize mostTo c (i + 1) = M' at hM
    by_cases hi0 : 0 < i
    rotate_left
    · have g3 : decide ((i : Int) > 0) = false := by simp; omega
      have hR : runTo c i = 0 ∧ runTo c (i + 1) = 1 := by
        have e0 : i = 0 := by omega
        subst e0
        exact ⟨rfl, by show runAt c 0 = 1; unfold runAt; rfl⟩
      have hs : stepAt m c i = true := by
        have e0 : i = 0 := by omega
        subst e0; rfl
      rw [hR.1, hR.2]
      rw [hR.2] at hM
      clear hR hrb no
      have yes := yes hs
      simp -dsimp -implicitDefEqProofs only [pick_nil, pick_cons, look_nil, look_cons, dropB_nil, dropB_cons, inD_nil, inD_cons, inE_nil, inE_cons, or_t_l, or_f_l, Nat.reduceBEq, Nat.reduceDiv, Nat.reduceAdd, beq_self_eq_true, Bool.false_eq_true, Bool.or_false, ↓reduceIte, Nat.reduceEqDiff, List.cons_append, List.nil_append]
      rw [hM]
      simp -dsimp -implicitDefEqProofs only [go_sem, ↓reduceIte, Nat.reduceEqDiff, Nat.reduceLT, Nat.reduceAdd, Nat.reduceMul, Nat.reduceLeDiff, Nat.le_refl, Int.natCast_zero, Int.toNat_natCast, Int.reduceToNat, li, gi, g3]
      repeat' first
        | (refine Br.intro (fun _ => ?_) (fun _ => ?_) <;> try simp -dsimp -implicitDefEqProofs only [go_sem, ↓reduceIte, Nat.reduceEqDiff, Nat.reduceLT, Nat.reduceAdd, Nat.reduceMul, Nat.reduceLeDiff, Nat.le_refl, Int.natCast_zero, Int.toNat_natCast, Int.reduceToNat, *])
        | (with_reducible refine And.intro ?_ ?_)
        | (refine Later.draw mixed rfl ?_; try simp -dsimp -implicitDefEqProofs only [go_sem, ↓reduceIte, Nat.reduceEqDiff, Nat.reduceLT, Nat.reduceAdd, Nat.reduceMul, Nat.reduceLeDiff, Nat.le_refl, Int.natCast_zero, Int.toNat_natCast, Int.reduceToNat, li, gi, g3])
      all_goals first
        | exact yes
        | (first | omega | (refine ⟨?_, ?_⟩ <;> omega) | (simp; done) | (simp; omega) | (refine ⟨?_, ?_⟩ <;> omega) | rfl | (simp; done) | (simp_all; done) | (simp_all; omega) | (exfalso; simp_all [bne]; done) | trace_state)
    · have hi' : i - 1 < c.length := by omega
      have e2 := hel (i - 1) hi'
      have g2 : c[((i : Int) - 1).toNat]? = some c[i - 1] := by rw [pred_toNat hi0]; exact get_some hi'
      have g3 : decide ((i : Int) > 0) = true := by simp; omega
      have hs : stepAt m c i = decide (absN (c[i] - c[i - 1]) ≤ m.step) := by
        rw [stepAt, show (i == 0) = false by simp; omega]
        simp [List.getD_eq_getElem?_getD, hi, hi']
      have hR : ((runTo c (i + 1) : Nat) : Int) = if (c[i] == c[i - 1]) = true then (runTo c i : Int) + 1 else 0 + 1 := by
        obtain ⟨j, rfl⟩ : ∃ j, i = j + 1 := ⟨i - 1, by omega⟩
        rw [show runTo c (j + 1 + 1) = runAt c (j + 1) from rfl, show runTo c (j + 1) = runAt c j from rfl, runAt]
        simp only [Nat.add_sub_cancel]
        have q1 : c.getD (j + 1) 0 = c[j + 1] := by simp [List.getD_eq_getElem?_getD, hi]
        have q2 : c.getD j 0 = c[j] := by simp [List.getD_eq_getElem?_getD, show j < c.length by omega]
        rw [q1, q2]
        by_cases hq : c[j + 1] = c[j]
        · rw [if_pos hq, if_pos (by simpa using hq)]; simp
        · rw [if_neg hq, if_neg (by simpa using hq)]; simp
      rw [hs] at no yes
      have yes' : decide (absN (c[i] - c[i - 1]) > m.step) = false → (List.range (i + 1)).all (stepAt m c) = true := fun h => yes (decide_eq_true (by have := of_decide_eq_false h; omega))
      have no' : decide (absN (c[i] - c[i - 1]) > m.step) = true → fault m c = 3 := fun h => no (decide_eq_false (by have := of_decide_eq_true h; omega))
      have hab : absN (c[i] - c[i - 1]) ≤ 7 := by unfold absN; split <;> omega
      have hab0 : 0 ≤ absN (c[i] - c[i - 1]) := by unfold absN; split <;> omega
      generalize runTo c i = R at hR hrb
      generalize runTo c (i + 1) = R' at hR hrb hM
      clear hs
      simp -dsimp -implicitDefEqProofs only [pick_nil, pick_cons, look_nil, look_cons, dropB_nil, dropB_cons, inD_nil, inD_cons, inE_nil, inE_cons, or_t_l, or_f_l, Nat.reduceBEq, Nat.reduceDiv, Nat.reduceAdd, beq_self_eq_true, Bool.false_eq_true, Bool.or_false, ↓reduceIte, Nat.reduceEqDiff, List.cons_append, List.nil_append]
      rw [hM]
      clear hM
      rw [hR]
      simp -dsimp -implicitDefEqProofs only [go_sem, ↓reduceIte, Nat.reduceEqDiff, Nat.reduceLT, Nat.reduceAdd, Nat.reduceMul, Nat.reduceLeDiff, Nat.le_refl, Int.natCast_zero, Int.toNat_natCast, Int.reduceToNat, li, gi, g2, g3]
      repeat' first
        | (refine Br.intro (fun _ => ?_) (fun _ => ?_) <;> try simp -dsimp -implicitDefEqProofs only [go_sem, ↓reduceIte, Nat.reduceEqDiff, Nat.reduceLT, Nat.reduceAdd, Nat.reduceMul, Nat.reduceLeDiff, Nat.le_refl, Int.natCast_zero, Int.toNat_natCast, Int.reduceToNat, *])
        | (with_reducible refine And.intro ?_ ?_)
        | (refine Later.draw mixed rfl ?_; try simp -dsimp -implicitDefEqProofs only [go_sem, ↓reduceIte, Nat.reduceEqDiff, Nat.reduceLT, Nat.reduceAdd, Nat.reduceMul, Nat.reduceLeDiff, Nat.le_refl, Int.natCast_zero, Int.toNat_natCast, Int.reduceToNat, li, gi, g2, g3])
        | (refine sCallX_one (c_l01Abs _ (by omega)) ?_; try simp -dsimp -implicitDefEqProofs only [go_sem, ↓reduceIte, Nat.reduceEqDiff, Nat.reduceLT, Nat.reduceAdd, Nat.reduceMul, Nat.reduceLeDiff, Nat.le_refl, Int.natCast_zero, Int.toNat_natCast, Int.reduceToNat, *])
      all_goals first
        | (rw [no' (by assumption)]; done)
        | (rw [← List.range_succ]; exact yes' (by assumption))
        | (first | omega | (refine ⟨?_, ?_⟩ <;> omega) | (simp; done) | (simp; omega) | (refine ⟨?_, ?_⟩ <;> omega) | rfl | (simp; done) | (simp_all; done) | (simp_all; omega) | (exfalso; simp_all [bne]; done) | trace_state)
  · have hMl := mostTo_le c m.same (by omega) c.length
    rw [hI, if_neg (by decide)] at hF
    rw [hF]
    clear hF hel hI
    rcases hq : ((List.range c.length).all fun i => decide ((runAt c i : Int) ≤ m.same)) with _ | _
    all_goals
      rw [hq] at hMl
      clear hq
      by_cases hk : (kindsTo c c.length : Int) < m.least
    all_goals
      have hk' := hk
      first | rw [if_pos hk] | rw [if_neg hk]
      first | replace hk' := decide_eq_true hk' | replace hk' := decide_eq_false hk'
      clear hk
      simp -dsimp -implicitDefEqProofs only [pick_nil, pick_cons, look_nil, look_cons, dropB_nil, dropB_cons, inD_nil, inD_cons, inE_nil, inE_cons, or_t_l, or_f_l, Nat.reduceBEq, Nat.reduceDiv, Nat.reduceAdd, beq_self_eq_true, Bool.false_eq_true, Bool.or_false, ↓reduceIte, Nat.reduceEqDiff, List.cons_append, List.nil_append]
      simp -dsimp -implicitDefEqProofs only [go_sem, ↓reduceIte, Nat.reduceEqDiff, Nat.reduceLT, Nat.reduceAdd, Nat.reduceMul, Nat.reduceLeDiff, Nat.le_refl, Int.natCast_zero, Int.toNat_natCast, Int.reduceToNat, nlt_len, hMl]
      repeat' first
        | (refine Br.intro (fun _ => ?_) (fun _ => ?_) <;> try simp -dsimp -implicitDefEqProofs only [go_sem, ↓reduceIte, Nat.reduceEqDiff, Nat.reduceLT, Nat.reduceAdd, Nat.reduceMul, Nat.reduceLeDiff, Nat.le_refl, Int.natCast_zero, Int.toNat_natCast, Int.reduceToNat, *])
        | (with_reducible refine And.intro ?_ ?_)
        | (refine Later.draw mixed rfl ?_; try simp -dsimp -implicitDefEqProofs only [go_sem, ↓reduceIte, Nat.reduceEqDiff, Nat.reduceLT, Nat.reduceAdd, Nat.reduceMul, Nat.reduceLeDiff, Nat.le_refl, Int.natCast_zero, Int.toNat_natCast, Int.reduceToNat, nlt_len, hMl, hk'])
        | (refine sCallX_one (c_l02Kinds c h) ?_; try simp -dsimp -implicitDefEqProofs only [go_sem, ↓reduceIte, Nat.reduceEqDiff, Nat.reduceLT, Nat.reduceAdd, Nat.reduceMul, Nat.reduceLeDiff, Nat.le_refl, Int.natCast_zero, Int.toNat_natCast, Int.reduceToNat, *])
      all_goals (first | omega | (refine ⟨?_, ?_⟩ <;> omega) | (simp; done) | (simp; omega) | (refine ⟨?_, ?_⟩ <;> omega) | rfl | (simp; done) | (simp_all; done) | (simp_all; omega) | (exfalso; simp_all [bne]; done) | trace_state)
theorem c_keyFault (m : MkM) (c : List Int) (hm : isMk m = true) (h : c.length ≤ 1048576) : Fn Tryz.prog 147 [eMk m, eIs c] true (· = eI (fault m c)) := by
  refine Fn.of_vcN 55 [.tmp 4] Tryz.func147 rfl rfl rfl rfl rfl (of_decide_eq_true rfl) ?_
  rcases hl : ((c.length : Int) == m.chambers) with _ | _
  · have hF : fault m c = 1 := by rw [fault, if_pos (by simpa using hl)]
    rw [hF]
    simp -dsimp -implicitDefEqProofs only [go_sem, ↓reduceIte, Nat.reduceEqDiff, Nat.reduceLT, Nat.reduceAdd, Nat.reduceMul, Nat.reduceLeDiff, Nat.le_refl, Int.natCast_zero, Int.toNat_natCast, Int.reduceToNat, hl]
    repeat' first
      | (refine Br.intro (fun _ => ?_) (fun _ => ?_) <;> try simp -dsimp -implicitDefEqProofs only [go_sem, ↓reduceIte, Nat.reduceEqDiff, Nat.reduceLT, Nat.reduceAdd, Nat.reduceMul, Nat.reduceLeDiff, Nat.le_refl, Int.natCast_zero, Int.toNat_natCast, Int.reduceToNat, *])
      | (with_reducible refine And.intro ?_ ?_)
    all_goals (first | omega | (refine ⟨?_, ?_⟩ <;> omega) | (simp; done) | (simp; omega) | (refine ⟨?_, ?_⟩ <;> omega) | rfl | (simp; done) | (simp_all; done) | (simp_all; omega) | (exfalso; simp_all [bne]; done) | trace_state)
  have hle : ¬ (c.length : Int) ≠ m.chambers := by simpa using hl
  have hc := c_areCutsK m c hm h
  rcases ha : (c.all fun x => isIn x 0 (m.depths - 1)) with _ | _
  · have hF : fault m c = 2 := by rw [fault, if_neg hle, if_pos ha]
    rw [ha, hl] at hc
    rw [hF]
    clear hF ha hle
    simp -dsimp -implicitDefEqProofs only [go_sem, ↓reduceIte, Nat.reduceEqDiff, Nat.reduceLT, Nat.reduceAdd, Nat.reduceMul, Nat.reduceLeDiff, Nat.le_refl, Int.natCast_zero, Int.toNat_natCast, Int.reduceToNat, hl]
    repeat' first
      | (refine Br.intro (fun _ => ?_) (fun _ => ?_) <;> try simp -dsimp -implicitDefEqProofs only [go_sem, ↓reduceIte, Nat.reduceEqDiff, Nat.reduceLT, Nat.reduceAdd, Nat.reduceMul, Nat.reduceLeDiff, Nat.le_refl, Int.natCast_zero, Int.toNat_natCast, Int.reduceToNat, *])
      | (with_reducible refine And.intro ?_ ?_)
      | (refine sCallT_one (hc) ?_; try simp -dsimp -implicitDefEqProofs only [go_sem, ↓reduceIte, Nat.reduceEqDiff, Nat.reduceLT, Nat.reduceAdd, Nat.reduceMul, Nat.reduceLeDiff, Nat.le_refl, Int.natCast_zero, Int.toNat_natCast, Int.reduceToNat, *])
    all_goals (first | omega | (refine ⟨?_, ?_⟩ <;> omega) | (simp; done) | (simp; omega) | (refine ⟨?_, ?_⟩ <;> omega) | rfl | (simp; done) | (simp_all; done) | (simp_all; omega) | (exfalso; simp_all [bne]; done) | trace_state)
  have hF : fault m c = if ((List.range c.length).all (stepAt m c)) = false then 3 else if ((List.range c.length).all fun i => decide ((runAt c i : Int) ≤ m.same)) = false then 4 else if (kindsTo c c.length : Int) < m.least then 5 else 0 := by
    rw [fault, if_neg hle, if_neg (by simp [ha])]
  rw [ha, hl] at hc
  have hel := elem_in hm ha
  have hsm := isMk_same hm
  have hkl := kindsTo_le c c.length
  have hch : 2 ≤ c.length ∧ c.length ≤ 6 := by have := isMk_num hm; omega
  clear ha hle
  simp -dsimp -implicitDefEqProofs only [go_sem, ↓reduceIte, Nat.reduceEqDiff, Nat.reduceLT, Nat.reduceAdd, Nat.reduceMul, Nat.reduceLeDiff, Nat.le_refl, Int.natCast_zero, Int.toNat_natCast, Int.reduceToNat, hl]
  repeat' first
    | (refine Br.intro (fun _ => ?_) (fun _ => ?_) <;> try simp -dsimp -implicitDefEqProofs only [go_sem, ↓reduceIte, Nat.reduceEqDiff, Nat.reduceLT, Nat.reduceAdd, Nat.reduceMul, Nat.reduceLeDiff, Nat.le_refl, Int.natCast_zero, Int.toNat_natCast, Int.reduceToNat, *])
    | (with_reducible refine And.intro ?_ ?_)
    | (refine sCallT_one (hc) ?_; try simp -dsimp -implicitDefEqProofs only [go_sem, ↓reduceIte, Nat.reduceEqDiff, Nat.reduceLT, Nat.reduceAdd, Nat.reduceMul, Nat.reduceLeDiff, Nat.le_refl, Int.natCast_zero, Int.toNat_natCast, Int.reduceToNat, *])
  all_goals try (first | omega | (simp; done) | (simp_all; done))
  clear hl hc
  refine Later.up [1, 2] [18, 32] [] (c.length - 1) (fun i => (List.range (i + 1)).all (stepAt m c)) (fun i => [(5, eI ((i + 1 : Nat) : Int))]) (fun _ => []) (by simp [stepAt]) ?_ rfl (fun i hi hI => ?_) (fun hI => ?_)
  · simp -dsimp -implicitDefEqProofs only [go_sem, ↓reduceIte, Nat.reduceEqDiff, Nat.reduceLT, Nat.reduceAdd, Nat.reduceMul, Nat.reduceLeDiff, Nat.le_refl, Int.natCast_zero, Int.toNat_natCast, Int.reduceToNat]
    all_goals (first | omega | (refine ⟨?_, ?_⟩ <;> omega) | (simp; done) | (simp; omega) | (refine ⟨?_, ?_⟩ <;> omega) | rfl | (simp; done) | (simp_all; done) | (simp_all; omega) | (exfalso; simp_all [bne]; done) | trace_state)
  · have hi1 : i + 1 < c.length := by omega
    have hi0 : i < c.length := by omega
    have no : stepAt m c (i + 1) = false → fault m c = 3 := fun h => by rw [hF, if_pos (range_all_no hi1 h)]
    have yes : stepAt m c (i + 1) = true → (List.range (i + 1 + 1)).all (stepAt m c) = true := fun h => by rw [range_all_succ, hI, h]; rfl
    have e1 := hel i hi0
    have e2 := hel (i + 1) hi1
    have g1 := get_some hi1
    have g2 : c[(((i + 1 : Nat) : Int) - 1).toNat]? = some c[i] := by rw [show (((i + 1 : Nat) : Int) - 1).toNat = i by omega]; exact get_some hi0
    have li := lt_len hi1
    have hs : stepAt m c (i + 1) = decide (absN (c[i + 1] - c[i]) ≤ m.step) := by
      rw [stepAt, show (i + 1 == 0) = false by simp]
      simp [List.getD_eq_getElem?_getD, hi0, hi1]
    rw [hs] at no yes
    have yes' : decide (absN (c[i + 1] - c[i]) > m.step) = false → (List.range (i + 1 + 1)).all (stepAt m c) = true := fun h => yes (decide_eq_true (by have := of_decide_eq_false h; omega))
    have no' : decide (absN (c[i + 1] - c[i]) > m.step) = true → fault m c = 3 := fun h => no (decide_eq_false (by have := of_decide_eq_true h; omega))
    have hab : absN (c[i + 1] - c[i]) ≤ 7 := by unfold absN; split <;> omega
    have hab0 : 0 ≤ absN (c[i + 1] - c[i]) := by unfold absN; split <;> omega
    clear hF hI hs
    simp -dsimp -implicitDefEqProofs only [pick_nil, pick_cons, look_nil, look_cons, dropB_nil, dropB_cons, inD_nil, inD_cons, inE_nil, inE_cons, or_t_l, or_f_l, Nat.reduceBEq, Nat.reduceDiv, Nat.reduceAdd, beq_self_eq_true, Bool.false_eq_true, Bool.or_false, ↓reduceIte, Nat.reduceEqDiff, List.cons_append, List.nil_append]
    simp -dsimp -implicitDefEqProofs only [go_sem, ↓reduceIte, Nat.reduceEqDiff, Nat.reduceLT, Nat.reduceAdd, Nat.reduceMul, Nat.reduceLeDiff, Nat.le_refl, Int.natCast_zero, Int.toNat_natCast, Int.reduceToNat, li, g1, g2]
    repeat' first
      | (refine Br.intro (fun _ => ?_) (fun _ => ?_) <;> try simp -dsimp -implicitDefEqProofs only [go_sem, ↓reduceIte, Nat.reduceEqDiff, Nat.reduceLT, Nat.reduceAdd, Nat.reduceMul, Nat.reduceLeDiff, Nat.le_refl, Int.natCast_zero, Int.toNat_natCast, Int.reduceToNat, *])
      | (with_reducible refine And.intro ?_ ?_)
      | (refine Later.draw mixed rfl ?_; try simp -dsimp -implicitDefEqProofs only [go_sem, ↓reduceIte, Nat.reduceEqDiff, Nat.reduceLT, Nat.reduceAdd, Nat.reduceMul, Nat.reduceLeDiff, Nat.le_refl, Int.natCast_zero, Int.toNat_natCast, Int.reduceToNat, li, g1, g2])
      | (refine sCallX_one (c_absolute _ (by omega)) ?_; try simp -dsimp -implicitDefEqProofs only [go_sem, ↓reduceIte, Nat.reduceEqDiff, Nat.reduceLT, Nat.reduceAdd, Nat.reduceMul, Nat.reduceLeDiff, Nat.le_refl, Int.natCast_zero, Int.toNat_natCast, Int.reduceToNat, *])
    all_goals first
      | (rw [no' (by assumption)]; done)
      | (exact yes' (by assumption))
      | (simp only [List.range_succ] at yes' ⊢; exact yes' (by assumption))
      | (first | omega | (refine ⟨?_, ?_⟩ <;> omega) | (simp; done) | (simp; omega) | (refine ⟨?_, ?_⟩ <;> omega) | rfl | (simp; done) | (simp_all; done) | (simp_all; omega) | (exfalso; simp_all [bne]; done) | trace_state)
  · have hcl : c.length - 1 + 1 = c.length := by omega
    rw [hcl] at hI ⊢
    rw [hI, if_neg (by decide)] at hF
    clear hel hI hcl
    simp -dsimp -implicitDefEqProofs only [pick_nil, pick_cons, look_nil, look_cons, dropB_nil, dropB_cons, inD_nil, inD_cons, inE_nil, inE_cons, or_t_l, or_f_l, Nat.reduceBEq, Nat.reduceDiv, Nat.reduceAdd, beq_self_eq_true, Bool.false_eq_true, Bool.or_false, ↓reduceIte, Nat.reduceEqDiff, List.cons_append, List.nil_append]
    simp -dsimp -implicitDefEqProofs only [go_sem, ↓reduceIte, Nat.reduceEqDiff, Nat.reduceLT, Nat.reduceAdd, Nat.reduceMul, Nat.reduceLeDiff, Nat.le_refl, Int.natCast_zero, Int.toNat_natCast, Int.reduceToNat, nlt_len]
    repeat' first
      | (refine Br.intro (fun _ => ?_) (fun _ => ?_) <;> try simp -dsimp -implicitDefEqProofs only [go_sem, ↓reduceIte, Nat.reduceEqDiff, Nat.reduceLT, Nat.reduceAdd, Nat.reduceMul, Nat.reduceLeDiff, Nat.le_refl, Int.natCast_zero, Int.toNat_natCast, Int.reduceToNat, *])
      | (with_reducible refine And.intro ?_ ?_)
    all_goals try (first | omega | rfl | (simp; done))
    refine Later.up [1, 2, 37] [45] [] c.length (fun i => (List.range i).all fun i => decide ((runAt c i : Int) ≤ m.same)) (fun i => [(38, eI i)]) (fun _ => []) (by simp) ?_ rfl (fun i hi hI => ?_) (fun hI => ?_)
    · simp -dsimp -implicitDefEqProofs only [go_sem, ↓reduceIte, Nat.reduceEqDiff, Nat.reduceLT, Nat.reduceAdd, Nat.reduceMul, Nat.reduceLeDiff, Nat.le_refl, Int.natCast_zero, Int.toNat_natCast, Int.reduceToNat]
      all_goals (first | omega | (refine ⟨?_, ?_⟩ <;> omega) | (simp; done) | (simp; omega) | (refine ⟨?_, ?_⟩ <;> omega) | rfl | (simp; done) | (simp_all; done) | (simp_all; omega) | (exfalso; simp_all [bne]; done) | trace_state)
    · have no : decide ((runAt c i : Int) ≤ m.same) = false → fault m c = 4 := fun h => by rw [hF, if_pos (range_all_no (p := fun i => decide ((runAt c i : Int) ≤ m.same)) hi h)]
      have yes : decide ((runAt c i : Int) ≤ m.same) = true → ((List.range (i + 1)).all fun i => decide ((runAt c i : Int) ≤ m.same)) = true := fun h => by rw [range_all_succ, hI, h]; rfl
      have yes' : decide ((runAt c i : Int) > m.same) = false → ((List.range (i + 1)).all fun i => decide ((runAt c i : Int) ≤ m.same)) = true := fun h => yes (decide_eq_true (by have := of_decide_eq_false h; omega))
      have no' : decide ((runAt c i : Int) > m.same) = true → fault m c = 4 := fun h => no (decide_eq_false (by have := of_decide_eq_true h; omega))
      have hrl := (runAt_spec c i).2.1
      have hcr := c_sameRun (c.take (i + 1)) (by simp; omega) (by simp; omega)
      have hll : (c.take (i + 1)).length - 1 = i := by simp; omega
      rw [hll, runAt_take c (i + 1) i (by omega)] at hcr
      have li := lt_len hi
      have e3 : ((i : Int) + 1).toNat = i + 1 := by omega
      clear hF hI no yes hll
      simp -dsimp -implicitDefEqProofs only [pick_nil, pick_cons, look_nil, look_cons, dropB_nil, dropB_cons, inD_nil, inD_cons, inE_nil, inE_cons, or_t_l, or_f_l, Nat.reduceBEq, Nat.reduceDiv, Nat.reduceAdd, beq_self_eq_true, Bool.false_eq_true, Bool.or_false, ↓reduceIte, Nat.reduceEqDiff, List.cons_append, List.nil_append]
      simp -dsimp -implicitDefEqProofs only [go_sem, ↓reduceIte, Nat.reduceEqDiff, Nat.reduceLT, Nat.reduceAdd, Nat.reduceMul, Nat.reduceLeDiff, Nat.le_refl, Int.natCast_zero, Int.toNat_natCast, Int.reduceToNat, li]
      repeat' first
        | (refine Br.intro (fun _ => ?_) (fun _ => ?_) <;> try simp -dsimp -implicitDefEqProofs only [go_sem, ↓reduceIte, Nat.reduceEqDiff, Nat.reduceLT, Nat.reduceAdd, Nat.reduceMul, Nat.reduceLeDiff, Nat.le_refl, Int.natCast_zero, Int.toNat_natCast, Int.reduceToNat, *])
        | (with_reducible refine And.intro ?_ ?_)
        | (refine Later.draw mixed rfl ?_; try simp -dsimp -implicitDefEqProofs only [go_sem, ↓reduceIte, Nat.reduceEqDiff, Nat.reduceLT, Nat.reduceAdd, Nat.reduceMul, Nat.reduceLeDiff, Nat.le_refl, Int.natCast_zero, Int.toNat_natCast, Int.reduceToNat, li, e3])
        | (rw [← List.map_take]; refine sCallX_one hcr ?_; try simp -dsimp -implicitDefEqProofs only [go_sem, ↓reduceIte, Nat.reduceEqDiff, Nat.reduceLT, Nat.reduceAdd, Nat.reduceMul, Nat.reduceLeDiff, Nat.le_refl, Int.natCast_zero, Int.toNat_natCast, Int.reduceToNat, *])
      all_goals first
        | (rw [no' (by assumption)]; done)
        | (exact yes' (by assumption))
        | (rw [← List.range_succ]; exact yes' (by assumption))
        | (first | omega | (refine ⟨?_, ?_⟩ <;> omega) | (simp; done) | (simp; omega) | (refine ⟨?_, ?_⟩ <;> omega) | rfl | (simp; done) | (simp_all; done) | (simp_all; omega) | (exfalso; simp_all [bne]; done) | trace_state)
    · rw [hI, if_neg (by decide)] at hF
      rw [hF]
      clear hF hI
      by_cases hk : (kindsTo c c.length : Int) < m.least
      all_goals
        have hk' := hk
        first | rw [if_pos hk] | rw [if_neg hk]
        first | replace hk' := decide_eq_true hk' | replace hk' := decide_eq_false hk'
        clear hk
        simp -dsimp -implicitDefEqProofs only [pick_nil, pick_cons, look_nil, look_cons, dropB_nil, dropB_cons, inD_nil, inD_cons, inE_nil, inE_cons, or_t_l, or_f_l, Nat.reduceBEq, Nat.reduceDiv, Nat.reduceAdd, beq_self_eq_true, Bool.false_eq_true, Bool.or_false, ↓reduceIte, Nat.reduceEqDiff, List.cons_append, List.nil_append]
        simp -dsimp -implicitDefEqProofs only [go_sem, ↓reduceIte, Nat.reduceEqDiff, Nat.reduceLT, Nat.reduceAdd, Nat.reduceMul, Nat.reduceLeDiff, Nat.le_refl, Int.natCast_zero, Int.toNat_natCast, Int.reduceToNat, nlt_len]
        repeat' first
          | (refine Br.intro (fun _ => ?_) (fun _ => ?_) <;> try simp -dsimp -implicitDefEqProofs only [go_sem, ↓reduceIte, Nat.reduceEqDiff, Nat.reduceLT, Nat.reduceAdd, Nat.reduceMul, Nat.reduceLeDiff, Nat.le_refl, Int.natCast_zero, Int.toNat_natCast, Int.reduceToNat, *])
          | (with_reducible refine And.intro ?_ ?_)
          | (refine Later.draw mixed rfl ?_; try simp -dsimp -implicitDefEqProofs only [go_sem, ↓reduceIte, Nat.reduceEqDiff, Nat.reduceLT, Nat.reduceAdd, Nat.reduceMul, Nat.reduceLeDiff, Nat.le_refl, Int.natCast_zero, Int.toNat_natCast, Int.reduceToNat, nlt_len, hk'])
          | (refine sCallX_one (c_different c h) ?_; try simp -dsimp -implicitDefEqProofs only [go_sem, ↓reduceIte, Nat.reduceEqDiff, Nat.reduceLT, Nat.reduceAdd, Nat.reduceMul, Nat.reduceLeDiff, Nat.le_refl, Int.natCast_zero, Int.toNat_natCast, Int.reduceToNat, *])
        all_goals (first | omega | (refine ⟨?_, ?_⟩ <;> omega) | (simp; done) | (simp; omega) | (refine ⟨?_, ?_⟩ <;> omega) | rfl | (simp; done) | (simp_all; done) | (simp_all; omega) | (exfalso; simp_all [bne]; done) | trace_state)
end Go.Vc


/-
  All keys of a maker, in order: what visits them and what counts them, in plain Lean.
-/
set_option linter.unusedVariables false
set_option linter.unusedSimpArgs false
set_option linter.unnecessarySimpa false
namespace Go.Vc
open Go.Proofs
set_option maxRecDepth 100000
structure KS (σ : Type) where
  ver : Nat
  zs : List Int
  s : σ
def stN {τ : Type} (f : Nat → τ → τ × Bool) (t : τ) : Nat → τ × Bool
  | 0 => (t, true)
  | i + 1 => if (stN f t i).2 = true then f i (stN f t i).1 else stN f t i
theorem stN_succ {τ : Type} {f : Nat → τ → τ × Bool} {t : τ} {i : Nat} (h : (stN f t i).2 = true) : stN f t (i + 1) = f i (stN f t i).1 := by
  rw [stN, if_pos h]
theorem stN_stop {τ : Type} {f : Nat → τ → τ × Bool} {t : τ} {i : Nat} (h : (stN f t i).2 = false) : ∀ j, i ≤ j → stN f t j = stN f t i := by
  intro j hj
  induction j with
  | zero => rw [show i = 0 by omega]
  | succ j ih =>
    by_cases e : i = j + 1
    · rw [e]
    · have := ih (by omega)
      rw [stN, this, if_neg (by rw [h]; exact fun e => by cases e)]
def visitL {σ : Type} (f : σ → List Int → σ × Bool) : σ → List (List Int) → σ × Bool
  | s, [] => (s, true)
  | s, k :: r => if (f s k).2 = true then visitL f (f s k).1 r else f s k
theorem visitL_append {σ : Type} {f : σ → List Int → σ × Bool} : ∀ (a b : List (List Int)) (s : σ), visitL f s (a ++ b) = if (visitL f s a).2 = true then visitL f (visitL f s a).1 b else visitL f s a
  | [], b, s => by simp [visitL]
  | k :: a, b, s => by
    simp only [List.cons_append, visitL]
    by_cases h : (f s k).2 = true
    · simp only [h, if_true]; exact visitL_append a b _
    · have h' : (f s k).2 = false := by simpa using h
      simp [h']
def stepOk (m : MkM) (c : List Int) (d : Int) : Bool := c.isEmpty || decide (absN (d - c.getD (c.length - 1) 0) ≤ m.step)
def runOk (m : MkM) (c : List Int) (d : Int) : Bool := decide ((runAt (c ++ [d]) c.length : Int) ≤ m.same)
def keysFrom (m : MkM) : Nat → List Int → List (List Int)
  | 0, c => if (kindsTo c c.length : Int) < m.least then [] else [c]
  | n + 1, c => (List.range m.depths.toNat).flatMap fun (d : Nat) => if (stepOk m c (d : Int) && runOk m c (d : Int)) = true then keysFrom m n (c ++ [(d : Int)]) else []
def cutF {σ : Type} (m : MkM) (f : σ → List Int → σ × Bool) : Nat → List Int → KS σ → KS σ × Bool
  | 0, c, t => if (kindsTo c c.length : Int) < m.least then (t, true) else (⟨t.ver, t.zs, (f t.s c).1⟩, (f t.s c).2)
  | n + 1, c, t => stN (fun (d : Nat) t => if stepOk m c d = true then if runOk m c d = true then cutF m f n (c ++ [(d : Int)]) ⟨t.ver + 1, t.zs.take c.length ++ [(d : Int)], t.s⟩ else (⟨t.ver + 1, t.zs.take c.length ++ [(d : Int)], t.s⟩, true) else (t, true)) t m.depths.toNat
def cutB {σ : Type} (m : MkM) (f : σ → List Int → σ × Bool) (n : Nat) (c : List Int) (d : Nat) (t : KS σ) : KS σ × Bool :=
  if stepOk m c d = true then if runOk m c d = true then cutF m f n (c ++ [(d : Int)]) ⟨t.ver + 1, t.zs.take c.length ++ [(d : Int)], t.s⟩ else (⟨t.ver + 1, t.zs.take c.length ++ [(d : Int)], t.s⟩, true) else (t, true)
theorem cutF_succ {σ : Type} (m : MkM) (f : σ → List Int → σ × Bool) (n : Nat) (c : List Int) (t : KS σ) : cutF m f (n + 1) c t = stN (cutB m f n c) t m.depths.toNat := rfl
def okZ {σ : Type} (c : List Int) (t : KS σ) : Prop := t.zs.take c.length = c ∧ c.length ≤ t.zs.length
theorem okZ_next {σ : Type} {c : List Int} {t : KS σ} (h : okZ c t) (d : Int) : okZ (c ++ [d]) (⟨t.ver + 1, t.zs.take c.length ++ [d], t.s⟩ : KS σ) := by
  refine ⟨?_, ?_⟩
  · show (t.zs.take c.length ++ [d]).take (c ++ [d]).length = _
    rw [h.1]; exact List.take_length
  · show (c ++ [d]).length ≤ (t.zs.take c.length ++ [d]).length
    rw [h.1]; exact Nat.le_refl _
theorem okZ_back {σ : Type} {c : List Int} {d : Int} {t : KS σ} (h : okZ (c ++ [d]) t) : okZ c t := by
  have h2 : c.length ≤ t.zs.length := by have := h.2; simp at this; omega
  refine ⟨?_, h2⟩
  have := congrArg (List.take c.length) h.1
  simp only [List.take_take] at this
  rw [show min c.length (c ++ [d]).length = c.length by simp] at this
  rw [this]; simp
theorem cutF_spec {σ : Type} (m : MkM) (f : σ → List Int → σ × Bool) : ∀ (n : Nat) (c : List Int) (t : KS σ), okZ c t → okZ c (cutF m f n c t).1 ∧ (cutF m f n c t).1.s = (visitL f t.s (keysFrom m n c)).1 ∧ (cutF m f n c t).2 = (visitL f t.s (keysFrom m n c)).2
  | 0, c, t, h => by
    simp only [cutF, keysFrom]
    split
    · exact ⟨h, rfl, rfl⟩
    · refine ⟨h, ?_, ?_⟩
      · simp only [visitL]; split <;> rfl
      · simp only [visitL]; split <;> simp_all
  | n + 1, c, t, h => by
    rw [cutF_succ, keysFrom]
    generalize m.depths.toNat = D
    induction D with
    | zero => exact ⟨h, rfl, rfl⟩
    | succ D ih =>
      obtain ⟨i1, i2, i3⟩ := ih
      rw [List.range_succ, List.flatMap_append, visitL_append]
      rw [← i3]
      by_cases hb : (stN (cutB m f n c) t D).2 = true
      · rw [stN_succ hb, if_pos hb, ← i2]
        generalize (stN (cutB m f n c) t D).1 = u at i1
        simp only [List.flatMap_cons, List.flatMap_nil, List.append_nil, cutB]
        by_cases h1 : stepOk m c D = true
        · by_cases h2 : runOk m c D = true
          · rw [if_pos h1, if_pos h2, if_pos (by rw [h1, h2]; rfl)]
            have := cutF_spec m f n (c ++ [(D : Int)]) ⟨u.ver + 1, u.zs.take c.length ++ [(D : Int)], u.s⟩ (okZ_next i1 D)
            exact ⟨okZ_back this.1, this.2.1, this.2.2⟩
          · rw [if_pos h1, if_neg h2, if_neg (by simp [h2])]
            exact ⟨okZ_back (okZ_next i1 D), rfl, rfl⟩
        · rw [if_neg h1, if_neg (by simp [h1])]
          exact ⟨i1, rfl, rfl⟩
      · rw [stN, if_neg hb, if_neg hb]
        exact ⟨i1, i2, by simpa using i3⟩
theorem stN_okZ {σ : Type} {m : MkM} {f : σ → List Int → σ × Bool} {n : Nat} {c : List Int} {t : KS σ} (h : okZ c t) : ∀ D, okZ c (stN (cutB m f n c) t D).1
  | 0 => h
  | D + 1 => by
    have i1 := stN_okZ h D (m := m) (f := f) (n := n)
    by_cases hb : (stN (cutB m f n c) t D).2 = true
    · rw [stN_succ hb]
      generalize (stN (cutB m f n c) t D).1 = u at i1
      simp only [cutB]
      by_cases h1 : stepOk m c D = true
      · by_cases h2 : runOk m c D = true
        · rw [if_pos h1, if_pos h2]
          exact okZ_back (cutF_spec m f n (c ++ [(D : Int)]) ⟨u.ver + 1, u.zs.take c.length ++ [(D : Int)], u.s⟩ (okZ_next i1 D)).1
        · rw [if_pos h1, if_neg h2]; exact okZ_back (okZ_next i1 D)
      · rw [if_neg h1]; exact i1
    · rw [stN, if_neg hb]; exact i1
theorem keysFrom_len (m : MkM) (hm : isMk m = true) : ∀ (n : Nat) (c : List Int), (keysFrom m n c).length ≤ 8 ^ n
  | 0, c => by simp only [keysFrom]; split <;> simp
  | n + 1, c => by
    have hd : m.depths.toNat ≤ 8 := by have := isMk_num hm; omega
    have : ∀ D, ((List.range D).flatMap fun (d : Nat) => if (stepOk m c (d : Int) && runOk m c (d : Int)) = true then keysFrom m n (c ++ [(d : Int)]) else []).length ≤ D * 8 ^ n := by
      intro D
      induction D with
      | zero => simp
      | succ D ih =>
        rw [List.range_succ, List.flatMap_append, List.length_append, Nat.succ_mul]
        refine Nat.add_le_add ih ?_
        simp only [List.flatMap_cons, List.flatMap_nil, List.append_nil]
        split
        · exact keysFrom_len m hm n _
        · exact Nat.zero_le _
    rw [keysFrom, Nat.pow_succ, Nat.mul_comm (8 ^ n) 8]
    exact Nat.le_trans (this _) (Nat.mul_le_mul_right _ hd)
theorem keysFrom_mem (m : MkM) : ∀ (n : Nat) (c k : List Int), k ∈ keysFrom m n c → k.take c.length = c ∧ k.length = c.length + n
  | 0, c, k, h => by
    simp only [keysFrom] at h
    split at h
    · cases h
    · simp at h; subst h; simp
  | n + 1, c, k, h => by
    simp only [keysFrom, List.mem_flatMap, List.mem_range] at h
    obtain ⟨d, _, h⟩ := h
    split at h
    · have := keysFrom_mem m n _ k h
      have h1 := congrArg (List.take c.length) this.1
      simp only [List.take_take] at h1
      rw [show min c.length (c ++ [(d : Int)]).length = c.length by simp] at h1
      refine ⟨by rw [h1]; simp, by rw [this.2]; simp; omega⟩
    · cases h
theorem stN_inc {m : MkM} (hm : isMk m = true) {f : Int → List Int → Int × Bool} {n : Nat} {c : List Int} (hc : ∀ (c' : List Int) (t : KS Int), t.s ≤ (cutF m f n c' t).1.s ∧ (cutF m f n c' t).1.s ≤ t.s + 8 ^ n) (t : KS Int) :
    ∀ D : Nat, t.s ≤ (stN (cutB m f n c) t D).1.s ∧ (stN (cutB m f n c) t D).1.s ≤ t.s + D * 8 ^ n
  | 0 => by simp [stN]
  | D + 1 => by
    have ih := stN_inc hm hc t D (c := c)
    have hp : (0 : Int) ≤ 8 ^ n := Int.pow_nonneg (by decide)
    have e : ((D + 1 : Nat) : Int) * 8 ^ n = (D : Int) * 8 ^ n + 8 ^ n := by rw [Int.natCast_add, Int.add_mul]; simp
    rw [e]
    by_cases hb : (stN (cutB m f n c) t D).2 = true
    · rw [stN_succ hb]
      generalize (stN (cutB m f n c) t D).1 = u at ih
      simp only [cutB]
      split
      · split
        · have := hc (c ++ [(D : Int)]) ⟨u.ver + 1, u.zs.take c.length ++ [(D : Int)], u.s⟩
          simp only at this
          omega
        · simp only; omega
      · simp only; omega
    · rw [stN, if_neg hb]; omega
theorem cutF_inc {m : MkM} (hm : isMk m = true) {f : Int → List Int → Int × Bool} (hf : ∀ s k, s ≤ (f s k).1 ∧ (f s k).1 ≤ s + 1) : ∀ (n : Nat) (c : List Int) (t : KS Int), t.s ≤ (cutF m f n c t).1.s ∧ (cutF m f n c t).1.s ≤ t.s + 8 ^ n
  | 0, c, t => by
    simp only [cutF]
    have := hf t.s c
    split <;> simp <;> omega
  | n + 1, c, t => by
    have hd : m.depths.toNat ≤ 8 := by have := isMk_num hm; omega
    have := stN_inc hm (cutF_inc hm hf n) t m.depths.toNat (c := c)
    have hp : (0 : Int) ≤ 8 ^ n := Int.pow_nonneg (by decide)
    have h2 : (m.depths.toNat : Int) * 8 ^ n ≤ 8 * 8 ^ n := Int.mul_le_mul_of_nonneg_right (by omega) hp
    have h3 : (8 : Int) ^ (n + 1) = 8 * 8 ^ n := by rw [Int.pow_succ, Int.mul_comm]
    rw [cutF_succ, h3]
    omega
def cntF (s : Int) (_ : List Int) : Int × Bool := (s + 1, true)
def rankF (key : List Int) (s : Int) (k : List Int) : Int × Bool := if k = key then (s, false) else (s + 1, true)
theorem visit_cnt : ∀ (ks : List (List Int)) (s : Int), visitL cntF s ks = (s + ks.length, true)
  | [], s => by simp [visitL]
  | k :: r, s => by
    show visitL cntF (s + 1) r = _
    rw [visit_cnt r]
    simp; omega
theorem visit_rank {key : List Int} : ∀ (a b : List (List Int)) (s : Int), key ∉ a → visitL (rankF key) s (a ++ key :: b) = (s + a.length, false)
  | [], b, s, _ => by simp [visitL, rankF]
  | k :: a, b, s, h => by
    have h1 : k ≠ key := fun e => h (by simp [e])
    have h2 : rankF key s k = (s + 1, true) := by simp [rankF, h1]
    rw [List.cons_append, visitL, h2]
    show visitL (rankF key) (s + 1) _ = _
    rw [visit_rank a b (s + 1) fun hh => h (List.mem_cons_of_mem _ hh)]
    simp; omega
/-- whether cuts may begin a key -/
def okTo (m : MkM) (c : List Int) : Bool := (List.range c.length).all fun i => decide ((runAt c i : Int) ≤ m.same) && stepAt m c i
theorem stepAt_take {m : MkM} {c : List Int} {d : Int} {i : Nat} (h : i < c.length) : stepAt m (c ++ [d]) i = stepAt m c i := by
  have g : ∀ j, j < c.length → (c ++ [d]).getD j 0 = c.getD j 0 := fun j hj => by simp [List.getD_eq_getElem?_getD, List.getElem?_append_left hj]
  unfold stepAt
  rw [g i h, g (i - 1) (by omega)]
theorem runAt_app {c : List Int} {d : Int} {i : Nat} (h : i < c.length) : runAt (c ++ [d]) i = runAt c i := by
  have := runAt_take (c ++ [d]) c.length i h
  simp at this
  exact this.symm
theorem okTo_snoc (m : MkM) (c : List Int) (d : Int) : okTo m (c ++ [d]) = (okTo m c && (stepOk m c d && runOk m c d)) := by
  have h1 : (List.range c.length).all (fun i => decide ((runAt (c ++ [d]) i : Int) ≤ m.same) && stepAt m (c ++ [d]) i) = okTo m c := by
    unfold okTo
    rw [Bool.eq_iff_iff, List.all_eq_true, List.all_eq_true]
    constructor
    · intro h i hi
      have := h i hi
      rwa [runAt_app (List.mem_range.1 hi), stepAt_take (List.mem_range.1 hi)] at this
    · intro h i hi
      rw [runAt_app (List.mem_range.1 hi), stepAt_take (List.mem_range.1 hi)]
      exact h i hi
  have h2 : stepAt m (c ++ [d]) c.length = stepOk m c d := by
    unfold stepAt stepOk
    cases c with
    | nil => simp
    | cons x r =>
      have g1 : ((x :: r) ++ [d]).getD (x :: r).length 0 = d := by simp [List.getD_eq_getElem?_getD]
      have g2 : ((x :: r) ++ [d]).getD ((x :: r).length - 1) 0 = (x :: r).getD ((x :: r).length - 1) 0 := by
        simp only [List.getD_eq_getElem?_getD]
        rw [List.getElem?_append_left (by simp)]
      rw [g1, g2]
      simp
  rw [okTo, List.length_append, show c.length + [d].length = c.length + 1 by rfl, range_all_succ, h1, h2]
  unfold runOk
  cases okTo m c <;> cases stepOk m c d <;> simp
def cnt (m : MkM) (n : Nat) (c : List Int) : Nat := if okTo m c = true then (keysFrom m n c).length else 0
theorem cnt_zero (m : MkM) (c : List Int) (h : okTo m c = true) : cnt m 0 c = if (kindsTo c c.length : Int) < m.least then 0 else 1 := by
  rw [cnt, if_pos h, keysFrom]
  split <;> rfl
def cntTo (m : MkM) (n : Nat) (c : List Int) (D : Nat) : Nat := ((List.range D).map fun (d : Nat) => cnt m n (c ++ [(d : Int)])).sum
theorem cntTo_succ (m : MkM) (n : Nat) (c : List Int) (D : Nat) : cntTo m n c (D + 1) = cntTo m n c D + cnt m n (c ++ [(D : Int)]) := by
  rw [cntTo, List.range_succ, List.map_append, List.sum_append]
  simp [cntTo]
def keysTo (m : MkM) (n : Nat) (c : List Int) (D : Nat) : List (List Int) := (List.range D).flatMap fun (d : Nat) => if (stepOk m c (d : Int) && runOk m c (d : Int)) = true then keysFrom m n (c ++ [(d : Int)]) else []
theorem keysTo_succ (m : MkM) (n : Nat) (c : List Int) (D : Nat) : keysTo m n c (D + 1) = keysTo m n c D ++ if (stepOk m c (D : Int) && runOk m c (D : Int)) = true then keysFrom m n (c ++ [(D : Int)]) else [] := by
  rw [keysTo, List.range_succ, List.flatMap_append]
  simp [keysTo]
theorem keysTo_len (m : MkM) (n : Nat) (c : List Int) (h : okTo m c = true) (D : Nat) : (keysTo m n c D).length = cntTo m n c D := by
  induction D with
  | zero => rfl
  | succ D ih =>
    rw [keysTo_succ, cntTo_succ, List.length_append, ih]
    congr 1
    rw [cnt, okTo_snoc, h, Bool.true_and]
    split <;> rfl
theorem cnt_succ (m : MkM) (n : Nat) (c : List Int) (h : okTo m c = true) : cnt m (n + 1) c = cntTo m n c m.depths.toNat := by
  rw [cnt, if_pos h, ← keysTo_len m n c h]; rfl
theorem cnt_le (m : MkM) (hm : isMk m = true) (n : Nat) (c : List Int) : cnt m n c ≤ 8 ^ n := by
  unfold cnt
  split
  · exact keysFrom_len m hm n c
  · exact Nat.zero_le _
theorem cntTo_le (m : MkM) (hm : isMk m = true) (n : Nat) (c : List Int) (D : Nat) : cntTo m n c D ≤ D * 8 ^ n := by
  induction D with
  | zero => simp [cntTo]
  | succ D ih => rw [cntTo_succ, Nat.succ_mul]; exact Nat.add_le_add ih (cnt_le m hm n _)
theorem keysTo_mem {m : MkM} {n : Nat} {c k : List Int} : ∀ {D : Nat}, k ∈ keysTo m n c D → ∃ d : Nat, d < D ∧ k.take (c.length + 1) = c ++ [(d : Int)]
  | 0, h => by cases h
  | D + 1, h => by
    rw [keysTo_succ, List.mem_append] at h
    rcases h with h | h
    · obtain ⟨d, h1, h2⟩ := keysTo_mem h; exact ⟨d, by omega, h2⟩
    · split at h
      · have := (keysFrom_mem m n _ k h).1
        exact ⟨D, by omega, by simpa using this⟩
      · cases h
theorem keysTo_split (m : MkM) (n : Nat) (c : List Int) (D : Nat) : ∀ E, ∃ r, keysTo m n c (D + E) = keysTo m n c D ++ r
  | 0 => ⟨[], by simp⟩
  | E + 1 => by
    obtain ⟨r, h⟩ := keysTo_split m n c D E
    exact ⟨r ++ _, by rw [← Nat.add_assoc, keysTo_succ, h, List.append_assoc]⟩
def rankTo (m : MkM) (key : List Int) : Nat → Nat
  | 0 => 0
  | i + 1 => rankTo m key i + cntTo m (key.length - (i + 1)) (key.take i) (key.getD i 0).toNat
theorem take_app {key : List Int} {i : Nat} (h : i < key.length) : key.take (i + 1) = key.take i ++ [key.getD i 0] := by
  rw [List.take_add_one]
  simp [List.getD_eq_getElem?_getD, h]
theorem okTo_take {m : MkM} {key : List Int} (h : okTo m key = true) : ∀ j, okTo m (key.take (key.length - j)) = true
  | 0 => by simpa using h
  | j + 1 => by
    have ih := okTo_take h j
    by_cases e : j < key.length
    · rw [show key.length - j = key.length - (j + 1) + 1 by omega, take_app (by omega), okTo_snoc] at ih
      simp only [Bool.and_eq_true] at ih
      exact ih.1
    · rw [show key.length - (j + 1) = key.length - j by omega]; exact ih
theorem okTo_take' {m : MkM} {key : List Int} (h : okTo m key = true) {i : Nat} (hi : i ≤ key.length) : okTo m (key.take i) = true := by
  have := okTo_take h (key.length - i)
  rwa [show key.length - (key.length - i) = i by omega] at this
theorem rank_at {m : MkM} {key : List Int} (h : okTo m key = true) (hk : ¬ (kindsTo key key.length : Int) < m.least) (he : ∀ x ∈ key, 0 ≤ x ∧ x < m.depths) : ∀ (n i : Nat), i + n = key.length →
    ∃ a b, keysFrom m n (key.take i) = a ++ key :: b ∧ key ∉ a ∧ a.length + rankTo m key i = rankTo m key key.length
  | 0, i, hi => by
    have e : key.take i = key := by rw [show i = key.length by omega]; exact List.take_length
    refine ⟨[], [], ?_, List.not_mem_nil, ?_⟩
    · rw [e, keysFrom, if_neg hk]; rfl
    · rw [show i = key.length by omega]; simp
  | n + 1, i, hi => by
    have hlt : i < key.length := by omega
    have hx := he (key.getD i 0) (by rw [List.getD_eq_getElem?_getD, List.getElem?_eq_getElem hlt]; exact List.getElem_mem _)
    have hsn := take_app hlt
    have hok1 := okTo_take' h (show i + 1 ≤ key.length by omega)
    obtain ⟨a', b', h1, h2, h3⟩ := rank_at h hk he n (i + 1) (by omega)
    have ed : ((key.getD i 0).toNat : Int) = key.getD i 0 := by omega
    have hcond : (stepOk m (key.take i) ((key.getD i 0).toNat : Int) && runOk m (key.take i) ((key.getD i 0).toNat : Int)) = true := by
      rw [hsn, okTo_snoc] at hok1
      simp only [Bool.and_eq_true] at hok1
      rw [ed, hok1.2.1, hok1.2.2]; rfl
    obtain ⟨r, hr⟩ := keysTo_split m n (key.take i) ((key.getD i 0).toNat + 1) (m.depths.toNat - ((key.getD i 0).toNat + 1))
    rw [show (key.getD i 0).toNat + 1 + (m.depths.toNat - ((key.getD i 0).toNat + 1)) = m.depths.toNat by omega, keysTo_succ, if_pos hcond, ed, ← hsn, h1] at hr
    refine ⟨keysTo m n (key.take i) (key.getD i 0).toNat ++ a', b' ++ r, ?_, fun hm => ?_, ?_⟩
    · show keysTo m n (key.take i) m.depths.toNat = _
      rw [hr]; simp
    · rcases List.mem_append.1 hm with hm | hm
      · obtain ⟨d, g1, g2⟩ := keysTo_mem hm
        rw [show (key.take i).length + 1 = i + 1 by simp; omega, hsn] at g2
        have := List.append_cancel_left g2
        injection this with this
        omega
      · exact h2 hm
    · rw [List.length_append, keysTo_len m n _ (okTo_take' h (by omega)), ← h3, rankTo, show key.length - (i + 1) = n by omega]
      omega
theorem fault_out {m : MkM} {c : List Int} (h : fault m c = 0) : (c.length : Int) = m.chambers ∧ (∀ x ∈ c, 0 ≤ x ∧ x < m.depths) ∧ okTo m c = true ∧ ¬ (kindsTo c c.length : Int) < m.least := by
  unfold fault at h
  split at h
  · cases h
  · rename_i h1
    split at h
    · cases h
    · rename_i h2
      split at h
      · cases h
      · rename_i h3
        split at h
        · cases h
        · rename_i h4
          split at h
          · cases h
          · rename_i h5
            refine ⟨by omega, fun x hx => ?_, ?_, h5⟩
            · have := List.all_eq_true.1 (by simpa using h2) x hx
              simp [isIn] at this; omega
            · unfold okTo
              rw [List.all_eq_true]
              intro i hi
              have a3 := List.all_eq_true.1 (by simpa using h3) i hi
              have h4' : ((List.range c.length).all fun i => decide ((runAt c i : Int) ≤ m.same)) = true := by
                cases hh : ((List.range c.length).all fun i => decide ((runAt c i : Int) ≤ m.same)) with
                | true => rfl
                | false => exact absurd hh h4
              have a4 := List.all_eq_true.1 h4' i hi
              simp only [a3, a4, Bool.and_self]
theorem rank_of {m : MkM} {key : List Int} (h : fault m key = 0) : (visitL (rankF key) 0 (keysFrom m m.chambers.toNat [])).1 = rankTo m key key.length ∧ rankTo m key key.length < cnt m m.chambers.toNat [] := by
  obtain ⟨h1, h2, h3, h4⟩ := fault_out h
  obtain ⟨a, b, g1, g2, g3⟩ := rank_at h3 h4 h2 key.length 0 (by omega)
  rw [show key.length = m.chambers.toNat by omega] at g1
  have g1' : keysFrom m m.chambers.toNat [] = a ++ key :: b := g1
  have g3' : a.length = rankTo m key key.length := by simpa [rankTo] using g3
  rw [g1', visit_rank a b 0 g2, ← g3']
  refine ⟨by simp, ?_⟩
  have h0 : okTo m [] = true := rfl
  rw [cnt, if_pos h0, g1']
  simp
end Go.Vc


/-
  Contracts: what counts keys by their beginnings; codes of keys.
-/
set_option linter.unusedVariables false
set_option linter.unusedSimpArgs false
set_option linter.unnecessarySimpa false
namespace Go.Vc
open Go.Proofs
set_option maxRecDepth 100000
set_option maxHeartbeats 2000000
def okAt (m : MkM) (c : List Int) (i : Nat) : Bool := decide ((runAt c i : Int) ≤ m.same) && stepAt m c i
theorem c_l02Begins (m : MkM) (c : List Int) (hm : isMk m = true) (h : c.length ≤ 6) (hel : ∀ x ∈ c, 0 ≤ x ∧ x ≤ 7) : Fn Tryz.prog 106 [eMk m, eIs c] true (· = eB (okTo m c)) := by
  refine Fn.of_vcN 53 [.tmp 4] Tryz.func106 rfl rfl rfl rfl rfl (of_decide_eq_true rfl) ?_
  have hF : okTo m c = (List.range c.length).all (okAt m c) := rfl
  simp -dsimp -implicitDefEqProofs only [go_sem, ↓reduceIte, Nat.reduceEqDiff, Nat.reduceLT, Nat.reduceAdd, Nat.reduceMul, Nat.reduceLeDiff, Nat.le_refl, Int.natCast_zero, Int.toNat_natCast, Int.reduceToNat]
  refine Later.up [1, 2] [9, 47] [] c.length (fun i => (List.range i).all (okAt m c) = true) (fun i => [(6, eI i), (5, eI (runTo c i))]) (fun _ => []) (by simp) ?_ rfl (fun i hi hI => ?_) (fun hI => ?_)
  · rw [show runTo c 0 = 0 from rfl]
    simp -dsimp -implicitDefEqProofs only [go_sem, ↓reduceIte, Nat.reduceEqDiff, Nat.reduceLT, Nat.reduceAdd, Nat.reduceMul, Nat.reduceLeDiff, Nat.le_refl, Int.natCast_zero, Int.toNat_natCast, Int.reduceToNat]
    all_goals (first | omega | (refine ⟨?_, ?_⟩ <;> omega) | (simp; done) | (simp; omega) | (refine ⟨?_, ?_⟩ <;> omega) | rfl | (simp; done) | (simp_all; done) | (simp_all; omega) | (exfalso; simp_all [bne]; done) | trace_state)
  · have no : okAt m c i = false → okTo m c = false := fun h => by rw [hF]; exact range_all_no hi h
    have yes : okAt m c i = true → (List.range (i + 1)).all (okAt m c) = true := fun h => by rw [range_all_succ, hI, h]; rfl
    have hrb : runTo c i ≤ i ∧ runTo c (i + 1) ≤ i + 1 := by
      refine ⟨?_, (runAt_spec c i).2.1⟩
      rw [runTo]; split
      · omega
      · have := (runAt_spec c (i - 1)).2.1; omega
    have e1 := hel c[i] (List.getElem_mem hi)
    have gi := get_some hi
    have li := lt_len hi
    have hok : okAt m c i = (decide (((runTo c (i + 1) : Nat) : Int) ≤ m.same) && stepAt m c i) := rfl
    clear hF hI
    by_cases hi0 : 0 < i
    rotate_left
    · have g3 : decide ((i : Int) > 0) = false := by simp; omega
      have hR : runTo c i = 0 ∧ runTo c (i + 1) = 1 := by
        have e0 : i = 0 := by omega
        subst e0
        exact ⟨rfl, by show runAt c 0 = 1; unfold runAt; rfl⟩
      have hs : okAt m c i = true := by
        have e0 : i = 0 := by omega
        have := isMk_same hm
        rw [hok, hR.2]
        subst e0
        have : decide (((1 : Nat) : Int) ≤ m.same) = true := decide_eq_true (by omega)
        rw [this]; rfl
      have hsame : decide ((1 : Int) > m.same) = false := decide_eq_false (by have := isMk_same hm; omega)
      rw [hR.1, hR.2]
      clear hR hrb no
      have yes := yes hs
      simp -dsimp -implicitDefEqProofs only [pick_nil, pick_cons, look_nil, look_cons, dropB_nil, dropB_cons, inD_nil, inD_cons, inE_nil, inE_cons, or_t_l, or_f_l, Nat.reduceBEq, Nat.reduceDiv, Nat.reduceAdd, beq_self_eq_true, Bool.false_eq_true, Bool.or_false, ↓reduceIte, Nat.reduceEqDiff, List.cons_append, List.nil_append]
      simp -dsimp -implicitDefEqProofs only [go_sem, ↓reduceIte, Nat.reduceEqDiff, Nat.reduceLT, Nat.reduceAdd, Nat.reduceMul, Nat.reduceLeDiff, Nat.le_refl, Int.natCast_zero, Int.toNat_natCast, Int.reduceToNat, li, gi, g3]
      repeat' first
        | (refine Br.intro (fun _ => ?_) (fun _ => ?_) <;> try simp -dsimp -implicitDefEqProofs only [go_sem, ↓reduceIte, Nat.reduceEqDiff, Nat.reduceLT, Nat.reduceAdd, Nat.reduceMul, Nat.reduceLeDiff, Nat.le_refl, Int.natCast_zero, Int.toNat_natCast, Int.reduceToNat, *])
        | (with_reducible refine And.intro ?_ ?_)
        | (refine Later.draw mixed rfl ?_; try simp -dsimp -implicitDefEqProofs only [go_sem, ↓reduceIte, Nat.reduceEqDiff, Nat.reduceLT, Nat.reduceAdd, Nat.reduceMul, Nat.reduceLeDiff, Nat.le_refl, Int.natCast_zero, Int.toNat_natCast, Int.reduceToNat, li, gi, g3, hsame])
      all_goals first
        | exact yes
        | (first | omega | (refine ⟨?_, ?_⟩ <;> omega) | (simp; done) | (simp; omega) | (refine ⟨?_, ?_⟩ <;> omega) | rfl | (simp; done) | (simp_all; done) | (simp_all; omega) | (exfalso; simp_all [bne]; done) | trace_state)
    · have hi' : i - 1 < c.length := by omega
      have e2 := hel c[i - 1] (List.getElem_mem hi')
      have g2 : c[((i : Int) - 1).toNat]? = some c[i - 1] := by rw [pred_toNat hi0]; exact get_some hi'
      have g3 : decide ((i : Int) > 0) = true := by simp; omega
      have hs : stepAt m c i = !decide (absN (c[i] - c[i - 1]) > m.step) := by
        rw [stepAt, show (i == 0) = false by simp; omega]
        have q1 : c.getD i 0 = c[i] := by simp [List.getD_eq_getElem?_getD, hi]
        have q2 : c.getD (i - 1) 0 = c[i - 1] := by simp [List.getD_eq_getElem?_getD, hi']
        rw [q1, q2, Bool.false_or]
        by_cases hq : absN (c[i] - c[i - 1]) ≤ m.step
        · rw [decide_eq_true hq, decide_eq_false (by omega)]; rfl
        · rw [decide_eq_false hq, decide_eq_true (by omega)]; rfl
      have hR : ((runTo c (i + 1) : Nat) : Int) = if (c[i] == c[i - 1]) = true then (runTo c i : Int) + 1 else 0 + 1 := by
        obtain ⟨j, rfl⟩ : ∃ j, i = j + 1 := ⟨i - 1, by omega⟩
        rw [show runTo c (j + 1 + 1) = runAt c (j + 1) from rfl, show runTo c (j + 1) = runAt c j from rfl, runAt]
        simp only [Nat.add_sub_cancel]
        have q1 : c.getD (j + 1) 0 = c[j + 1] := by simp [List.getD_eq_getElem?_getD, hi]
        have q2 : c.getD j 0 = c[j] := by simp [List.getD_eq_getElem?_getD, show j < c.length by omega]
        rw [q1, q2]
        by_cases hq : c[j + 1] = c[j]
        · rw [if_pos hq, if_pos (by simpa using hq)]; simp
        · rw [if_neg hq, if_neg (by simpa using hq)]; simp
      have hok2 : okAt m c i = (!decide (((runTo c (i + 1) : Nat) : Int) > m.same) && !decide (absN (c[i] - c[i - 1]) > m.step)) := by
        rw [hok, hs]
        congr 1
        by_cases hq : ((runTo c (i + 1) : Nat) : Int) ≤ m.same
        · rw [decide_eq_true hq, decide_eq_false (by omega)]; rfl
        · rw [decide_eq_false hq, decide_eq_true (by omega)]; rfl
      clear hok hs
      rw [hok2] at no yes
      clear hok2
      have habs := c_l01Abs (c[i] - c[i - 1]) (by omega)
      rcases hq1 : (c[i] == c[i - 1]) with _ | _
      all_goals
        rw [hq1] at hR
        simp only [if_true, Bool.false_eq_true, if_false] at hR
        have hne : (c[i] != c[i - 1]) = !(c[i] == c[i - 1]) := rfl
        rw [hq1] at hne
        rw [hR] at no yes
        rcases hq2 : decide (absN (c[i] - c[i - 1]) > m.step) with _ | _
      all_goals
        first
          | (rcases hq3 : decide ((runTo c i : Int) + 1 > m.same) with _ | _)
          | skip
      all_goals
        generalize runTo c i = R at *
        generalize runTo c (i + 1) = R' at *
        simp -dsimp -implicitDefEqProofs only [pick_nil, pick_cons, look_nil, look_cons, dropB_nil, dropB_cons, inD_nil, inD_cons, inE_nil, inE_cons, or_t_l, or_f_l, Nat.reduceBEq, Nat.reduceDiv, Nat.reduceAdd, beq_self_eq_true, Bool.false_eq_true, Bool.or_false, ↓reduceIte, Nat.reduceEqDiff, List.cons_append, List.nil_append]
        try rw [hR]
        simp -dsimp -implicitDefEqProofs only [go_sem, ↓reduceIte, Nat.reduceEqDiff, Nat.reduceLT, Nat.reduceAdd, Nat.reduceMul, Nat.reduceLeDiff, Nat.le_refl, Int.natCast_zero, Int.toNat_natCast, Int.reduceToNat, li, gi, g2, g3]
        repeat' first
          | (refine Br.intro (fun _ => ?_) (fun _ => ?_) <;> try simp -dsimp -implicitDefEqProofs only [go_sem, ↓reduceIte, Nat.reduceEqDiff, Nat.reduceLT, Nat.reduceAdd, Nat.reduceMul, Nat.reduceLeDiff, Nat.le_refl, Int.natCast_zero, Int.toNat_natCast, Int.reduceToNat, *])
          | (with_reducible refine And.intro ?_ ?_)
          | (refine Later.draw mixed rfl ?_; try simp -dsimp -implicitDefEqProofs only [go_sem, ↓reduceIte, Nat.reduceEqDiff, Nat.reduceLT, Nat.reduceAdd, Nat.reduceMul, Nat.reduceLeDiff, Nat.le_refl, Int.natCast_zero, Int.toNat_natCast, Int.reduceToNat, li, gi, g2, g3])
          | (refine sCallX_one (habs) ?_; try simp -dsimp -implicitDefEqProofs only [go_sem, ↓reduceIte, Nat.reduceEqDiff, Nat.reduceLT, Nat.reduceAdd, Nat.reduceMul, Nat.reduceLeDiff, Nat.le_refl, Int.natCast_zero, Int.toNat_natCast, Int.reduceToNat, *])
        all_goals first
          | (rw [no (by simp_all)]; done)
          | (rw [← List.range_succ]; exact yes (by simp_all))
          | (first | omega | (refine ⟨?_, ?_⟩ <;> omega) | (simp; done) | (simp; omega) | (refine ⟨?_, ?_⟩ <;> omega) | rfl | (simp; done) | (simp_all; done) | (simp_all; omega) | (exfalso; simp_all [bne]; done) | trace_state)
  · rw [← hF] at hI
    rw [hI]
    simp -dsimp -implicitDefEqProofs only [pick_nil, pick_cons, look_nil, look_cons, dropB_nil, dropB_cons, inD_nil, inD_cons, inE_nil, inE_cons, or_t_l, or_f_l, Nat.reduceBEq, Nat.reduceDiv, Nat.reduceAdd, beq_self_eq_true, Bool.false_eq_true, Bool.or_false, ↓reduceIte, Nat.reduceEqDiff, List.cons_append, List.nil_append]
    simp -dsimp -implicitDefEqProofs only [go_sem, ↓reduceIte, Nat.reduceEqDiff, Nat.reduceLT, Nat.reduceAdd, Nat.reduceMul, Nat.reduceLeDiff, Nat.le_refl, Int.natCast_zero, Int.toNat_natCast, Int.reduceToNat, nlt_len]
theorem c_EqualI (xs ys : List Int) (h : xs.length ≤ 9223372036854775807) : Fn Tryz.prog 98 [eIs xs, eIs ys] true (· = eB (decide (xs = ys))) := by
  refine Fn.of_vcN 26 [.tmp 4] Tryz.func98 rfl rfl rfl rfl rfl (of_decide_eq_true rfl) ?_
  simp -dsimp -implicitDefEqProofs only [go_sem, ↓reduceIte, Nat.reduceEqDiff, Nat.reduceLT, Nat.reduceAdd, Nat.reduceMul, Nat.reduceLeDiff, Nat.le_refl, Int.natCast_zero, Int.toNat_natCast, Int.reduceToNat]
  repeat' (refine Br.intro (fun _ => ?_) (fun _ => ?_) <;> try simp -dsimp -implicitDefEqProofs only [go_sem, ↓reduceIte, Nat.reduceEqDiff, Nat.reduceLT, Nat.reduceAdd, Nat.reduceMul, Nat.reduceLeDiff, Nat.le_refl, Int.natCast_zero, Int.toNat_natCast, Int.reduceToNat, *])
  · rw [decide_eq_false]; intro e; subst e; simp_all
  have h1 : xs.length = ys.length := by simp_all <;> omega
  refine Later.up [0, 1, 12] [] [] xs.length (fun i => xs.take i = ys.take i) (fun i => [(13, eI i)]) (fun _ => []) rfl ?_ rfl (fun i hi hI => ?_) (fun hI => ?_)
  · simp -dsimp -implicitDefEqProofs only [go_sem, ↓reduceIte, Nat.reduceEqDiff, Nat.reduceLT, Nat.reduceAdd, Nat.reduceMul, Nat.reduceLeDiff, Nat.le_refl, Int.natCast_zero, Int.toNat_natCast, Int.reduceToNat]
  · simp -dsimp -implicitDefEqProofs only [pick_nil, pick_cons, look_nil, look_cons, dropB_nil, dropB_cons, inD_nil, inD_cons, inE_nil, inE_cons, or_t_l, or_f_l, Nat.reduceBEq, Nat.reduceDiv, Nat.reduceAdd, beq_self_eq_true, Bool.false_eq_true, Bool.or_false, ↓reduceIte, Nat.reduceEqDiff, List.cons_append, List.nil_append]
    have hy : i < ys.length := by omega
    have no : xs[i] ≠ ys[i] → decide (xs = ys) = false := eq_no hi hy
    have yes : xs[i] = ys[i] → xs.take (i + 1) = ys.take (i + 1) := eq_yes hi hy hI
    simp -dsimp -implicitDefEqProofs only [go_sem, ↓reduceIte, Nat.reduceEqDiff, Nat.reduceLT, Nat.reduceAdd, Nat.reduceMul, Nat.reduceLeDiff, Nat.le_refl, Int.natCast_zero, Int.toNat_natCast, Int.reduceToNat, lt_len hi, get_some hi]
    refine Later.draw mixed rfl ?_
    simp -dsimp -implicitDefEqProofs only [go_sem, ↓reduceIte, Nat.reduceEqDiff, Nat.reduceLT, Nat.reduceAdd, Nat.reduceMul, Nat.reduceLeDiff, Nat.le_refl, Int.natCast_zero, Int.toNat_natCast, Int.reduceToNat, get_some hi, get_some hy]
    repeat' first
      | (refine Br.intro (fun _ => ?_) (fun _ => ?_) <;> try simp -dsimp -implicitDefEqProofs only [go_sem, ↓reduceIte, Nat.reduceEqDiff, Nat.reduceLT, Nat.reduceAdd, Nat.reduceMul, Nat.reduceLeDiff, Nat.le_refl, Int.natCast_zero, Int.toNat_natCast, Int.reduceToNat, *])
      | (with_reducible refine And.intro ?_ ?_)
      | fail
    all_goals first
      | omega
      | (refine ⟨?_, ?_⟩ <;> omega)
      | rfl
      | (simp; done)
      | (rw [no]; clear no yes; simp_all; done)
      | (refine yes ?_; clear no yes; simp_all; done)
  · simp -dsimp -implicitDefEqProofs only [pick_nil, pick_cons, look_nil, look_cons, dropB_nil, dropB_cons, inD_nil, inD_cons, inE_nil, inE_cons, or_t_l, or_f_l, Nat.reduceBEq, Nat.reduceDiv, Nat.reduceAdd, beq_self_eq_true, Bool.false_eq_true, Bool.or_false, ↓reduceIte, Nat.reduceEqDiff, List.cons_append, List.nil_append]
    simp -dsimp -implicitDefEqProofs only [go_sem, ↓reduceIte, Nat.reduceEqDiff, Nat.reduceLT, Nat.reduceAdd, Nat.reduceMul, Nat.reduceLeDiff, Nat.le_refl, Int.natCast_zero, Int.toNat_natCast, Int.reduceToNat, nlt_len]
    have h3 : xs = ys := by rw [← List.take_length (l := xs), hI, h1, List.take_length]
    simp [h3]
end Go.Vc


/-
  Contracts: the first key that begins with some cuts, the next key.
-/
set_option linter.unusedVariables false
set_option linter.unusedSimpArgs false
set_option linter.unnecessarySimpa false
namespace Go.Vc
open Go.Proofs
set_option maxRecDepth 100000
set_option maxHeartbeats 2000000
/- ---- plain -/
def firstD (f : Nat → Option (List Int)) : Nat → Option (List Int)
  | 0 => none
  | d + 1 => match firstD f d with
    | some k => some k
    | none => f d
def firstK (m : MkM) : Nat → List Int → Option (List Int)
  | 0, c => if okTo m c = true ∧ m.least ≤ (kindsTo c c.length : Int) then some c else none
  | n + 1, c => if okTo m c = true then firstD (fun (d : Nat) => firstK m n (c ++ [(d : Int)])) m.depths.toNat else none
theorem firstD_out {f : Nat → Option (List Int)} {k : List Int} : ∀ {D : Nat}, firstD f D = some k → ∃ d, d < D ∧ f d = some k
  | D + 1, h => by
    simp only [firstD] at h
    cases hh : firstD f D with
    | some k' =>
      rw [hh] at h
      obtain ⟨d, h1, h2⟩ := firstD_out hh
      exact ⟨d, by omega, h2.trans h⟩
    | none => rw [hh] at h; exact ⟨D, by omega, h⟩
theorem firstD_none {f : Nat → Option (List Int)} {D : Nat} (h : firstD f D = none) : firstD f (D + 1) = f D := by simp [firstD, h]
theorem firstD_some {f : Nat → Option (List Int)} {D : Nat} {k : List Int} (h : firstD f D = some k) : ∀ E, D ≤ E → firstD f E = some k
  | 0, hE => by rw [show D = 0 by omega] at h; cases h
  | E + 1, hE => by
    by_cases e : D = E + 1
    · rw [← e]; exact h
    · simp only [firstD]; rw [firstD_some h E (by omega)]
def optR (o : Option (List Int)) : AV := match o with
  | some k => .tup [eIs k, eB true]
  | none => .tup [.val (.slice none 0 0), eB false]
/-- what l02First tells: the key; or cuts, of which it says that they are none -/
def firstR (m : MkM) (n : Nat) (c : List Int) (r : AV) : Prop := match firstK m n c with
  | some k => r = .tup [eIs k, eB true]
  | none => ∃ x, r = .tup [x, eB false] ∧ (x = .val (.slice none 0 0) ∨ x = eIs c)
theorem c_l02First (m : MkM) (hm : isMk m = true) : ∀ (n : Nat) (c : List Int), (c.length : Int) + n = m.chambers → (∀ x ∈ c, 0 ≤ x ∧ x ≤ 7) → Fn Tryz.prog 123 [eMk m, eIs c] false (firstR m n c) := by
  intro n
  have ⟨⟨hch1, hch2⟩, hd1, hd2⟩ := isMk_num hm
  induction n with
  | zero =>
    intro c hl hc
    refine Fn.of_vcS 42 [.tmp 4, .tmp 5] Tryz.func123 rfl rfl rfl rfl rfl (of_decide_eq_true rfl) ?_
    have hbe := c_l02Begins m c hm (by omega) hc
    have hk : ((c.length : Int) == m.chambers) = true := beq_iff_eq.2 (by omega)
    have hki := c_l02Kinds c (by omega)
    unfold firstR
    rcases hb : okTo m c with _ | _
    · have hcnt : firstK m 0 c = none := by rw [firstK, if_neg (by rw [hb]; exact fun h => by cases h.1)]
      rw [hb] at hbe
      rw [hcnt]
      clear hcnt hb
      simp -dsimp -implicitDefEqProofs only [go_sem, ↓reduceIte, Nat.reduceEqDiff, Nat.reduceLT, Nat.reduceAdd, Nat.reduceMul, Nat.reduceLeDiff, Nat.le_refl, Int.natCast_zero, Int.toNat_natCast, Int.reduceToNat]
      (refine sCallT_one (hbe) ?_; try simp -dsimp -implicitDefEqProofs only [go_sem, ↓reduceIte, Nat.reduceEqDiff, Nat.reduceLT, Nat.reduceAdd, Nat.reduceMul, Nat.reduceLeDiff, Nat.le_refl, Int.natCast_zero, Int.toNat_natCast, Int.reduceToNat, *])
      exact ⟨_, rfl, .inl rfl⟩
    · rw [hb] at hbe
      rcases hq : decide ((kindsTo c c.length : Int) ≥ m.least) with _ | _
      · have hcnt : firstK m 0 c = none := by rw [firstK, if_neg (fun h => by have := of_decide_eq_false hq; omega)]
        rw [hcnt]
        clear hcnt hb
        simp -dsimp -implicitDefEqProofs only [go_sem, ↓reduceIte, Nat.reduceEqDiff, Nat.reduceLT, Nat.reduceAdd, Nat.reduceMul, Nat.reduceLeDiff, Nat.le_refl, Int.natCast_zero, Int.toNat_natCast, Int.reduceToNat]
        (refine sCallT_one (hbe) ?_; try simp -dsimp -implicitDefEqProofs only [go_sem, ↓reduceIte, Nat.reduceEqDiff, Nat.reduceLT, Nat.reduceAdd, Nat.reduceMul, Nat.reduceLeDiff, Nat.le_refl, Int.natCast_zero, Int.toNat_natCast, Int.reduceToNat, *])
        refine Later.draw mixed rfl ?_
        simp -dsimp -implicitDefEqProofs only [go_sem, ↓reduceIte, Nat.reduceEqDiff, Nat.reduceLT, Nat.reduceAdd, Nat.reduceMul, Nat.reduceLeDiff, Nat.le_refl, Int.natCast_zero, Int.toNat_natCast, Int.reduceToNat]
        (refine sCallX_one (hki) ?_; try simp -dsimp -implicitDefEqProofs only [go_sem, ↓reduceIte, Nat.reduceEqDiff, Nat.reduceLT, Nat.reduceAdd, Nat.reduceMul, Nat.reduceLeDiff, Nat.le_refl, Int.natCast_zero, Int.toNat_natCast, Int.reduceToNat, *])
        exact ⟨by exact rfl, _, rfl, .inr rfl⟩
      · have hcnt : firstK m 0 c = some c := by rw [firstK, if_pos ⟨hb, by have := of_decide_eq_true hq; omega⟩]
        rw [hcnt]
        clear hcnt hb
        simp -dsimp -implicitDefEqProofs only [go_sem, ↓reduceIte, Nat.reduceEqDiff, Nat.reduceLT, Nat.reduceAdd, Nat.reduceMul, Nat.reduceLeDiff, Nat.le_refl, Int.natCast_zero, Int.toNat_natCast, Int.reduceToNat]
        (refine sCallT_one (hbe) ?_; try simp -dsimp -implicitDefEqProofs only [go_sem, ↓reduceIte, Nat.reduceEqDiff, Nat.reduceLT, Nat.reduceAdd, Nat.reduceMul, Nat.reduceLeDiff, Nat.le_refl, Int.natCast_zero, Int.toNat_natCast, Int.reduceToNat, *])
        refine Later.draw mixed rfl ?_
        simp -dsimp -implicitDefEqProofs only [go_sem, ↓reduceIte, Nat.reduceEqDiff, Nat.reduceLT, Nat.reduceAdd, Nat.reduceMul, Nat.reduceLeDiff, Nat.le_refl, Int.natCast_zero, Int.toNat_natCast, Int.reduceToNat]
        (refine sCallX_one (hki) ?_; try simp -dsimp -implicitDefEqProofs only [go_sem, ↓reduceIte, Nat.reduceEqDiff, Nat.reduceLT, Nat.reduceAdd, Nat.reduceMul, Nat.reduceLeDiff, Nat.le_refl, Int.natCast_zero, Int.toNat_natCast, Int.reduceToNat, *])
        exact rfl
  | succ n ih =>
    intro c hl hc
    refine Fn.of_vcS 42 [.tmp 4, .tmp 5] Tryz.func123 rfl rfl rfl rfl rfl (of_decide_eq_true rfl) ?_
    have hbe := c_l02Begins m c hm (by omega) hc
    have hk : ((c.length : Int) == m.chambers) = false := beq_eq_false_iff_ne.2 (by omega)
    unfold firstR
    rcases hb : okTo m c with _ | _
    · have hcnt : firstK m (n + 1) c = none := by rw [firstK, if_neg (by rw [hb]; exact fun h => by cases h)]
      rw [hb] at hbe
      rw [hcnt]
      clear hcnt hb
      simp -dsimp -implicitDefEqProofs only [go_sem, ↓reduceIte, Nat.reduceEqDiff, Nat.reduceLT, Nat.reduceAdd, Nat.reduceMul, Nat.reduceLeDiff, Nat.le_refl, Int.natCast_zero, Int.toNat_natCast, Int.reduceToNat]
      (refine sCallT_one (hbe) ?_; try simp -dsimp -implicitDefEqProofs only [go_sem, ↓reduceIte, Nat.reduceEqDiff, Nat.reduceLT, Nat.reduceAdd, Nat.reduceMul, Nat.reduceLeDiff, Nat.le_refl, Int.natCast_zero, Int.toNat_natCast, Int.reduceToNat, *])
      exact ⟨_, rfl, .inl rfl⟩
    · have hcnt : firstK m (n + 1) c = firstD (fun (d : Nat) => firstK m n (c ++ [(d : Int)])) m.depths.toNat := by rw [firstK, if_pos hb]
      rw [hb] at hbe
      rw [hcnt]
      clear hcnt hb
      have hown := c_l01Own c (by omega)
      simp -dsimp -implicitDefEqProofs only [go_sem, ↓reduceIte, Nat.reduceEqDiff, Nat.reduceLT, Nat.reduceAdd, Nat.reduceMul, Nat.reduceLeDiff, Nat.le_refl, Int.natCast_zero, Int.toNat_natCast, Int.reduceToNat]
      (refine sCallT_one (hbe) ?_; try simp -dsimp -implicitDefEqProofs only [go_sem, ↓reduceIte, Nat.reduceEqDiff, Nat.reduceLT, Nat.reduceAdd, Nat.reduceMul, Nat.reduceLeDiff, Nat.le_refl, Int.natCast_zero, Int.toNat_natCast, Int.reduceToNat, *])
      refine Later.up [1, 2] [33, 35, 36, 37] [] m.depths.toNat (fun i => firstD (fun (d : Nat) => firstK m n (c ++ [(d : Int)])) i = none) (fun i => [(6, eI i)]) (fun _ => []) rfl ?_ rfl (fun i hi hI => ?_) (fun hI => ?_)
      · simp -dsimp -implicitDefEqProofs only [go_sem, ↓reduceIte, Nat.reduceEqDiff, Nat.reduceLT, Nat.reduceAdd, Nat.reduceMul, Nat.reduceLeDiff, Nat.le_refl, Int.natCast_zero, Int.toNat_natCast, Int.reduceToNat]
      · have hih := ih (c ++ [(i : Int)]) (by simp; omega) (fun x hx => by
          rcases List.mem_append.1 hx with h | h
          · exact hc x h
          · simp at h; omega)
        have hlt : decide ((i : Int) < m.depths) = true := decide_eq_true (by omega)
        have hmap : List.map eI c ++ [eI (i : Int)] = List.map eI (c ++ [(i : Int)]) := by simp
        have htk : List.take c.length (List.map eI c) = List.map eI c := List.take_of_length_le (by simp)
        have htl : List.take (c.length + 1) (List.map eI (c ++ [(i : Int)])) = List.map eI (c ++ [(i : Int)]) := List.take_of_length_le (by simp)
        have hnx := firstD_none hI
        have hend : ∀ k, firstK m n (c ++ [(i : Int)]) = some k → firstD (fun (d : Nat) => firstK m n (c ++ [(d : Int)])) m.depths.toNat = some k := fun k hk => firstD_some (hnx.trans hk) _ (by omega)
        rw [hnx]
        clear ih hI hnx
        unfold firstR at hih
        generalize firstK m n (c ++ [(i : Int)]) = F at *
        simp -dsimp -implicitDefEqProofs only [pick_nil, pick_cons, look_nil, look_cons, dropB_nil, dropB_cons, inD_nil, inD_cons, inE_nil, inE_cons, or_t_l, or_f_l, Nat.reduceBEq, Nat.reduceDiv, Nat.reduceAdd, beq_self_eq_true, Bool.false_eq_true, Bool.or_false, ↓reduceIte, Nat.reduceEqDiff, List.cons_append, List.nil_append]
        simp -dsimp -implicitDefEqProofs only [go_sem, ↓reduceIte, Nat.reduceEqDiff, Nat.reduceLT, Nat.reduceAdd, Nat.reduceMul, Nat.reduceLeDiff, Nat.le_refl, Int.natCast_zero, Int.toNat_natCast, Int.reduceToNat, hlt]
        refine Later.duo 6 mixed rfl ?_
        simp -dsimp -implicitDefEqProofs only [List.take_succ_cons, List.take_zero, List.drop_succ_cons, List.drop_zero]
        simp -dsimp -implicitDefEqProofs only [go_sem, ↓reduceIte, Nat.reduceEqDiff, Nat.reduceLT, Nat.reduceAdd, Nat.reduceMul, Nat.reduceLeDiff, Nat.le_refl, Int.natCast_zero, Int.toNat_natCast, Int.reduceToNat]
        (refine sCallX_one (hown) ?_; try simp -dsimp -implicitDefEqProofs only [go_sem, ↓reduceIte, Nat.reduceEqDiff, Nat.reduceLT, Nat.reduceAdd, Nat.reduceMul, Nat.reduceLeDiff, Nat.le_refl, Int.natCast_zero, Int.toNat_natCast, Int.reduceToNat, *])
        refine ⟨by omega, ?_⟩
        refine ⟨by exact rfl, ?_⟩
        refine sCallT_frz 34000 1 ⟨1, false⟩ true (List.map eI (c ++ [(i : Int)])) hih (by decide) ?_ ?_ fun r hr => ?_
        · simp -dsimp -implicitDefEqProofs only [go_sem, ↓reduceIte, Nat.reduceEqDiff, Nat.reduceLT, Nat.reduceAdd, Nat.reduceMul, Nat.reduceLeDiff, Nat.le_refl, Int.natCast_zero, Int.toNat_natCast, Int.reduceToNat]
        · refine frzOk_no ?_ rfl ?_
          · simp -dsimp -implicitDefEqProofs only [go_sem, ↓reduceIte, Nat.reduceEqDiff, Nat.reduceLT, Nat.reduceAdd, Nat.reduceMul, Nat.reduceLeDiff, Nat.le_refl, Int.natCast_zero, Int.toNat_natCast, Int.reduceToNat]
          · have h := frzOk_ref (l := 34000) (v := 1) (sh := ⟨1, false⟩) (ys := List.map eI (c ++ [(i : Int)])) (xs := []) (r := []) 0 (c.length + 1) (by simp) trivial
            rw [List.drop_zero, htl] at h
            exact h
        · cases F with
          | some k =>
            rw [hend k rfl]
            rw [show r = .tup [eIs k, eB true] from hr]
            clear hr hend
            simp -dsimp -implicitDefEqProofs only [go_sem, ↓reduceIte, Nat.reduceEqDiff, Nat.reduceLT, Nat.reduceAdd, Nat.reduceMul, Nat.reduceLeDiff, Nat.le_refl, Int.natCast_zero, Int.toNat_natCast, Int.reduceToNat]
            exact rfl
          | none =>
            clear hend
            obtain ⟨x, rfl, hx⟩ := hr
            rcases hx with rfl | rfl
            · simp -dsimp -implicitDefEqProofs only [go_sem, ↓reduceIte, Nat.reduceEqDiff, Nat.reduceLT, Nat.reduceAdd, Nat.reduceMul, Nat.reduceLeDiff, Nat.le_refl, Int.natCast_zero, Int.toNat_natCast, Int.reduceToNat]
              exact ⟨by exact rfl, ⟨by omega, by omega⟩, by simp⟩
            · simp -dsimp -implicitDefEqProofs only [go_sem, ↓reduceIte, Nat.reduceEqDiff, Nat.reduceLT, Nat.reduceAdd, Nat.reduceMul, Nat.reduceLeDiff, Nat.le_refl, Int.natCast_zero, Int.toNat_natCast, Int.reduceToNat]
              exact ⟨by exact rfl, ⟨by omega, by omega⟩, by simp⟩
      · have hlt : decide (((m.depths.toNat : Nat) : Int) < m.depths) = false := decide_eq_false (by omega)
        rw [hI]
        clear hI
        simp -dsimp -implicitDefEqProofs only [pick_nil, pick_cons, look_nil, look_cons, dropB_nil, dropB_cons, inD_nil, inD_cons, inE_nil, inE_cons, or_t_l, or_f_l, Nat.reduceBEq, Nat.reduceDiv, Nat.reduceAdd, beq_self_eq_true, Bool.false_eq_true, Bool.or_false, ↓reduceIte, Nat.reduceEqDiff, List.cons_append, List.nil_append]
        simp -dsimp -implicitDefEqProofs only [go_sem, ↓reduceIte, Nat.reduceEqDiff, Nat.reduceLT, Nat.reduceAdd, Nat.reduceMul, Nat.reduceLeDiff, Nat.le_refl, Int.natCast_zero, Int.toNat_natCast, Int.reduceToNat, hlt]
        exact ⟨_, rfl, .inl rfl⟩
/-- the next key behind c, looked for at the last j places -/
def nextTo (m : MkM) (c : List Int) : Nat → Option (List Int)
  | 0 => none
  | j + 1 => match nextTo m c j with
    | some k => some k
    | none => firstD (fun (e : Nat) => firstK m j (c.take (c.length - 1 - j) ++ [c.getD (c.length - 1 - j) 0 + 1 + (e : Int)])) (m.depths - (c.getD (c.length - 1 - j) 0 + 1)).toNat
theorem nextTo_none {m : MkM} {c : List Int} {j : Nat} (h : nextTo m c j = none) : nextTo m c (j + 1) = firstD (fun (e : Nat) => firstK m j (c.take (c.length - 1 - j) ++ [c.getD (c.length - 1 - j) 0 + 1 + (e : Int)])) (m.depths - (c.getD (c.length - 1 - j) 0 + 1)).toNat := by simp [nextTo, h]
theorem nextTo_some {m : MkM} {c k : List Int} {j : Nat} (h : nextTo m c j = some k) : ∀ E, j ≤ E → nextTo m c E = some k
  | 0, hE => by rw [show j = 0 by omega] at h; cases h
  | E + 1, hE => by
    by_cases e : j = E + 1
    · rw [← e]; exact h
    · simp only [nextTo]; rw [nextTo_some h E (by omega)]
theorem c_l02Next (m : MkM) (c : List Int) (hm : isMk m = true) (hl : (c.length : Int) = m.chambers) (hc : ∀ x ∈ c, 0 ≤ x ∧ x < m.depths) : Fn Tryz.prog 122 [eMk m, eIs c] false (· = optR (nextTo m c c.length)) := by
  have ⟨⟨hch1, hch2⟩, hd1, hd2⟩ := isMk_num hm
  refine Fn.of_vcS 42 [.tmp 4, .tmp 5] Tryz.func122 rfl rfl rfl rfl rfl (of_decide_eq_true rfl) ?_
  simp -dsimp -implicitDefEqProofs only [go_sem, ↓reduceIte, Nat.reduceEqDiff, Nat.reduceLT, Nat.reduceAdd, Nat.reduceMul, Nat.reduceLeDiff, Nat.le_refl, Int.natCast_zero, Int.toNat_natCast, Int.reduceToNat]
  refine ⟨⟨by omega, by omega⟩, ?_⟩
  refine Later.up [1, 2] [33, 35, 36, 37] [] c.length (fun j => nextTo m c j = none) (fun j => [(6, eI ((c.length : Int) - 1 - (j : Int)))]) (fun _ => []) rfl ?_ rfl (fun j hj hJ => ?_) (fun hJ => ?_)
  · simp -dsimp -implicitDefEqProofs only [go_sem, ↓reduceIte, Nat.reduceEqDiff, Nat.reduceLT, Nat.reduceAdd, Nat.reduceMul, Nat.reduceLeDiff, Nat.le_refl, Int.natCast_zero, Int.toNat_natCast, Int.reduceToNat]
    all_goals first | (simp; done) | trace_state
  · have hlt : decide ((c.length : Int) - 1 - (j : Int) ≥ 0) = true := decide_eq_true (by omega)
    have hnx := nextTo_none hJ
    have hend : ∀ k, nextTo m c (j + 1) = some k → nextTo m c c.length = some k := fun k hk => nextTo_some hk _ (by omega)
    have hi : c.length - 1 - j < c.length := by omega
    have hcast : (c.length : Int) - 1 - (j : Int) = ((c.length - 1 - j : Nat) : Int) := by omega
    have hx := hc c[c.length - 1 - j] (List.getElem_mem hi)
    have hgd : c.getD (c.length - 1 - j) 0 = c[c.length - 1 - j] := by simp [List.getD_eq_getElem?_getD, hi]
    have gi := get_some hi
    have hneg : (c.length : Int) - 1 - ((j + 1 : Nat) : Int) = ((c.length - 1 - j : Nat) : Int) - 1 := by omega
    rw [hgd] at hnx
    rw [hcast] at hlt
    rw [hcast, hneg]
    clear hJ hcast hgd hneg
    generalize hI : c.length - 1 - j = i at *
    generalize c[i] = z at *
    rw [hnx]
    have hend' : ∀ k, firstD (fun (e : Nat) => firstK m j (c.take i ++ [z + 1 + (e : Int)])) (m.depths - (z + 1)).toNat = some k → nextTo m c c.length = some k := fun k hk => hend k (hnx.trans hk)
    clear hnx hend
    simp -dsimp -implicitDefEqProofs only [pick_nil, pick_cons, look_nil, look_cons, dropB_nil, dropB_cons, inD_nil, inD_cons, inE_nil, inE_cons, or_t_l, or_f_l, Nat.reduceBEq, Nat.reduceDiv, Nat.reduceAdd, beq_self_eq_true, Bool.false_eq_true, Bool.or_false, ↓reduceIte, Nat.reduceEqDiff, List.cons_append, List.nil_append]
    simp -dsimp -implicitDefEqProofs only [go_sem, ↓reduceIte, Nat.reduceEqDiff, Nat.reduceLT, Nat.reduceAdd, Nat.reduceMul, Nat.reduceLeDiff, Nat.le_refl, Int.natCast_zero, Int.toNat_natCast, Int.reduceToNat, hlt, gi]
    refine ⟨by omega, ⟨by omega, by omega⟩, ?_⟩
    refine Later.up [1, 2, 6] [33, 35, 36, 37] [] (m.depths - (z + 1)).toNat (fun e => firstD (fun (e : Nat) => firstK m j (c.take i ++ [z + 1 + (e : Int)])) e = none) (fun e => [(7, eI (z + 1 + (e : Int)))]) (fun _ => []) rfl ?_ rfl (fun e he hE => ?_) (fun hE => ?_)
    · simp -dsimp -implicitDefEqProofs only [go_sem, ↓reduceIte, Nat.reduceEqDiff, Nat.reduceLT, Nat.reduceAdd, Nat.reduceMul, Nat.reduceLeDiff, Nat.le_refl, Int.natCast_zero, Int.toNat_natCast, Int.reduceToNat]
      all_goals first | (simp; done) | trace_state
    · have hlt2 : decide (z + 1 + (e : Int) < m.depths) = true := decide_eq_true (by omega)
      have hlenT : (c.take i).length = i := by simp; omega
      have hih := c_l02First m hm j (c.take i ++ [z + 1 + (e : Int)]) (by simp; omega) (fun x hx2 => by
        rcases List.mem_append.1 hx2 with h | h
        · have := hc x (List.mem_of_mem_take h); omega
        · simp at h; omega)
      have hown := c_l01Own (c.take i) (by omega)
      have htk : List.take i (List.map eI c) = List.map eI (c.take i) := List.map_take.symm
      have hnx := firstD_none hE
      have hend2 : ∀ k, firstK m j (c.take i ++ [z + 1 + (e : Int)]) = some k → nextTo m c c.length = some k := fun k hk => hend' k (firstD_some (hnx.trans hk) _ (by omega))
      rw [hnx]
      clear hE hnx hend' hc
      unfold firstR at hih
      generalize c.take i = T at *
      have hmap : List.map eI T ++ [eI (z + 1 + (e : Int))] = List.map eI (T ++ [z + 1 + (e : Int)]) := by simp
      have htl : List.take (i + 1) (List.map eI (T ++ [z + 1 + (e : Int)])) = List.map eI (T ++ [z + 1 + (e : Int)]) := List.take_of_length_le (by simp; omega)
      have htl2 : List.take i (List.map eI T) = List.map eI T := List.take_of_length_le (by simp; omega)
      generalize firstK m j (T ++ [z + 1 + (e : Int)]) = F at *
      simp -dsimp -implicitDefEqProofs only [pick_nil, pick_cons, look_nil, look_cons, dropB_nil, dropB_cons, inD_nil, inD_cons, inE_nil, inE_cons, or_t_l, or_f_l, Nat.reduceBEq, Nat.reduceDiv, Nat.reduceAdd, beq_self_eq_true, Bool.false_eq_true, Bool.or_false, ↓reduceIte, Nat.reduceEqDiff, List.cons_append, List.nil_append]
      simp -dsimp -implicitDefEqProofs only [go_sem, ↓reduceIte, Nat.reduceEqDiff, Nat.reduceLT, Nat.reduceAdd, Nat.reduceMul, Nat.reduceLeDiff, Nat.le_refl, Int.natCast_zero, Int.toNat_natCast, Int.reduceToNat, hlt2]
      refine Later.duo 8 mixed rfl ?_
      simp -dsimp -implicitDefEqProofs only [List.take_succ_cons, List.take_zero, List.drop_succ_cons, List.drop_zero]
      simp -dsimp -implicitDefEqProofs only [go_sem, ↓reduceIte, Nat.reduceEqDiff, Nat.reduceLT, Nat.reduceAdd, Nat.reduceMul, Nat.reduceLeDiff, Nat.le_refl, Int.natCast_zero, Int.toNat_natCast, Int.reduceToNat, htk]
      refine ⟨by omega, ?_⟩
      (refine sCallX_one (hown) ?_; try simp -dsimp -implicitDefEqProofs only [go_sem, ↓reduceIte, Nat.reduceEqDiff, Nat.reduceLT, Nat.reduceAdd, Nat.reduceMul, Nat.reduceLeDiff, Nat.le_refl, Int.natCast_zero, Int.toNat_natCast, Int.reduceToNat, *])
      refine ⟨by omega, ?_⟩
      refine ⟨by exact rfl, ?_⟩
      refine sCallT_frz 34000 1 ⟨1, false⟩ true (List.map eI (T ++ [z + 1 + (e : Int)])) hih (by decide) ?_ ?_ fun r hr => ?_
      · simp -dsimp -implicitDefEqProofs only [go_sem, ↓reduceIte, Nat.reduceEqDiff, Nat.reduceLT, Nat.reduceAdd, Nat.reduceMul, Nat.reduceLeDiff, Nat.le_refl, Int.natCast_zero, Int.toNat_natCast, Int.reduceToNat]
      · refine frzOk_no ?_ rfl ?_
        · simp -dsimp -implicitDefEqProofs only [go_sem, ↓reduceIte, Nat.reduceEqDiff, Nat.reduceLT, Nat.reduceAdd, Nat.reduceMul, Nat.reduceLeDiff, Nat.le_refl, Int.natCast_zero, Int.toNat_natCast, Int.reduceToNat]
        · have h := frzOk_ref (l := 34000) (v := 1) (sh := ⟨1, false⟩) (ys := List.map eI (T ++ [z + 1 + (e : Int)])) (xs := []) (r := []) 0 (i + 1) (by simp; omega) trivial
          rw [List.drop_zero, htl] at h
          exact h
      · cases F with
        | some k =>
          rw [hend2 k rfl]
          rw [show r = .tup [eIs k, eB true] from hr]
          clear hr hend2
          simp -dsimp -implicitDefEqProofs only [go_sem, ↓reduceIte, Nat.reduceEqDiff, Nat.reduceLT, Nat.reduceAdd, Nat.reduceMul, Nat.reduceLeDiff, Nat.le_refl, Int.natCast_zero, Int.toNat_natCast, Int.reduceToNat, optR]
          exact rfl
        | none =>
          clear hend2
          obtain ⟨x, rfl, hx⟩ := hr
          rcases hx with rfl | rfl
          · simp -dsimp -implicitDefEqProofs only [go_sem, ↓reduceIte, Nat.reduceEqDiff, Nat.reduceLT, Nat.reduceAdd, Nat.reduceMul, Nat.reduceLeDiff, Nat.le_refl, Int.natCast_zero, Int.toNat_natCast, Int.reduceToNat]
            exact ⟨by exact rfl, ⟨by omega, by omega⟩, by simp; omega⟩
          · simp -dsimp -implicitDefEqProofs only [go_sem, ↓reduceIte, Nat.reduceEqDiff, Nat.reduceLT, Nat.reduceAdd, Nat.reduceMul, Nat.reduceLeDiff, Nat.le_refl, Int.natCast_zero, Int.toNat_natCast, Int.reduceToNat]
            exact ⟨by exact rfl, ⟨by omega, by omega⟩, by simp; omega⟩
    · have hlt2 : decide (z + 1 + (((m.depths - (z + 1)).toNat : Nat) : Int) < m.depths) = false := decide_eq_false (by omega)
      rw [hE]
      simp -dsimp -implicitDefEqProofs only [pick_nil, pick_cons, look_nil, look_cons, dropB_nil, dropB_cons, inD_nil, inD_cons, inE_nil, inE_cons, or_t_l, or_f_l, Nat.reduceBEq, Nat.reduceDiv, Nat.reduceAdd, beq_self_eq_true, Bool.false_eq_true, Bool.or_false, ↓reduceIte, Nat.reduceEqDiff, List.cons_append, List.nil_append]
      simp -dsimp -implicitDefEqProofs only [go_sem, ↓reduceIte, Nat.reduceEqDiff, Nat.reduceLT, Nat.reduceAdd, Nat.reduceMul, Nat.reduceLeDiff, Nat.le_refl, Int.natCast_zero, Int.toNat_natCast, Int.reduceToNat, hlt2]
      first | exact ⟨by omega, by omega⟩ | trace_state
  · have hlt : decide ((c.length : Int) - 1 - (c.length : Int) ≥ 0) = false := decide_eq_false (by omega)
    rw [hJ]
    clear hJ
    simp -dsimp -implicitDefEqProofs only [pick_nil, pick_cons, look_nil, look_cons, dropB_nil, dropB_cons, inD_nil, inD_cons, inE_nil, inE_cons, or_t_l, or_f_l, Nat.reduceBEq, Nat.reduceDiv, Nat.reduceAdd, beq_self_eq_true, Bool.false_eq_true, Bool.or_false, ↓reduceIte, Nat.reduceEqDiff, List.cons_append, List.nil_append]
    simp -dsimp -implicitDefEqProofs only [go_sem, ↓reduceIte, Nat.reduceEqDiff, Nat.reduceLT, Nat.reduceAdd, Nat.reduceMul, Nat.reduceLeDiff, Nat.le_refl, Int.natCast_zero, Int.toNat_natCast, Int.reduceToNat, hlt, optR]
end Go.Vc


/-
  A valid maker has a key.
-/
set_option linter.unusedVariables false
set_option linter.unusedSimpArgs false
set_option linter.unnecessarySimpa false
namespace Go.Vc
open Go.Proofs
set_option maxRecDepth 100000
set_option maxHeartbeats 4000000
theorem firstD_not {f : Nat → Option (List Int)} {d : Nat} (h : f d ≠ none) : ∀ D, d < D → firstD f D ≠ none
  | 0, hd => absurd hd (Nat.not_lt_zero _)
  | D + 1, hd => by
    simp only [firstD]
    cases hh : firstD f D with
    | some k => exact fun h => by cases h
    | none =>
      by_cases e : d = D
      · subst e; exact h
      · exact absurd hh (firstD_not h D (by omega))
theorem firstK_not {m : MkM} : ∀ (n : Nat) (c t : List Int), t.length = n → okTo m (c ++ t) = true → m.least ≤ (kindsTo (c ++ t) (c ++ t).length : Int) → (∀ x ∈ t, 0 ≤ x ∧ x < m.depths) → firstK m n c ≠ none
  | 0, c, t, hl, ho, hk, hx => by
    obtain rfl := List.eq_nil_of_length_eq_zero hl
    rw [List.append_nil] at ho hk
    rw [firstK, if_pos ⟨ho, hk⟩]
    exact fun h => by cases h
  | n + 1, c, t, hl, ho, hk, hx => by
    cases t with
    | nil => cases hl
    | cons d t =>
      have hd := hx d (List.mem_cons_self ..)
      have hoc : okTo m c = true := by
        have := okTo_take' ho (i := c.length) (by simp)
        rwa [List.take_left'] at this
        rfl
      rw [firstK, if_pos hoc]
      refine firstD_not (d := d.toNat) ?_ _ (by omega)
      have e : ((d.toNat : Nat) : Int) = d := by omega
      rw [e]
      have e2 : c ++ d :: t = (c ++ [d]) ++ t := by simp
      rw [e2] at ho hk
      exact firstK_not n (c ++ [d]) t (by simpa using hl) ho hk fun x hx2 => hx x (List.mem_cons_of_mem _ hx2)
theorem firstK_len {m : MkM} : ∀ (n : Nat) (c k : List Int), firstK m n c = some k → k.length = c.length + n ∧ okTo m k = true ∧ (m.least ≤ (kindsTo k k.length : Int)) ∧ ((∀ x ∈ c, 0 ≤ x ∧ x < m.depths) → ∀ x ∈ k, 0 ≤ x ∧ x < m.depths)
  | 0, c, k, h => by
    rw [firstK] at h
    split at h
    · rename_i hc
      injection h with h
      subst h
      exact ⟨rfl, hc.1, hc.2, fun h => h⟩
    · cases h
  | n + 1, c, k, h => by
    rw [firstK] at h
    split at h
    · obtain ⟨d, h1, h2⟩ := firstD_out h
      obtain ⟨g1, g2, g3, g4⟩ := firstK_len n _ k h2
      refine ⟨by rw [g1]; simp; omega, g2, g3, fun hc => g4 fun x hx => ?_⟩
      rcases List.mem_append.1 hx with h | h
      · exact hc x h
      · simp at h; omega
    · cases h
def zig (ch dp : Int) : List Int := (([0, 1, 2, 3, 4, 5] : List Int).map fun x => if x < dp then x else if (x - dp).tmod 2 = 0 then dp - 2 else dp - 1).take ch.toNat
def zigB (C D : Int) : Bool :=
  (zig C D).length == C.toNat && (List.range (zig C D).length).all (fun i => decide (runAt (zig C D) i ≤ 1) && (i == 0 || decide (absN ((zig C D).getD i 0 - (zig C D).getD (i - 1) 0) ≤ 1))) &&
    decide ((if D < C then D else C) ≤ (kindsTo (zig C D) (zig C D).length : Int)) && (zig C D).all fun x => decide (0 ≤ x) && decide (x < D)
theorem zigB_all : ((List.range 5).all fun c => (List.range 7).all fun d => zigB ((c : Int) + 2) ((d : Int) + 2)) = true := by decide +kernel
theorem zig_ok {m : MkM} (hm : isMk m = true) : (zig m.chambers m.depths).length = m.chambers.toNat ∧ okTo m (zig m.chambers m.depths) = true ∧ m.least ≤ (kindsTo (zig m.chambers m.depths) (zig m.chambers m.depths).length : Int) ∧ ∀ x ∈ zig m.chambers m.depths, 0 ≤ x ∧ x < m.depths := by
  have hnum := isMk_num hm
  have hs := isMk_same hm
  have hl : m.least ≤ if m.depths < m.chambers then m.depths else m.chambers := by
    simp only [isMk, isIn, Bool.and_eq_true, decide_eq_true_eq] at hm
    exact hm.2.2
  have h1 := List.all_eq_true.1 zigB_all (m.chambers.toNat - 2) (List.mem_range.2 (by omega))
  have h2 := List.all_eq_true.1 h1 (m.depths.toNat - 2) (List.mem_range.2 (by omega))
  rw [show ((m.chambers.toNat - 2 : Nat) : Int) + 2 = m.chambers by omega, show ((m.depths.toNat - 2 : Nat) : Int) + 2 = m.depths by omega] at h2
  unfold zigB at h2
  simp only [Bool.and_eq_true, beq_iff_eq, decide_eq_true_eq] at h2
  obtain ⟨⟨⟨g1, g2⟩, g3⟩, g4⟩ := h2
  generalize zig m.chambers m.depths = z at *
  refine ⟨g1, ?_, by omega, fun x hx => ?_⟩
  · unfold okTo
    rw [List.all_eq_true] at g2 ⊢
    intro i hi
    have := g2 i hi
    simp only [Bool.and_eq_true, decide_eq_true_eq, Bool.or_eq_true, beq_iff_eq] at this ⊢
    refine ⟨by omega, ?_⟩
    unfold stepAt
    rcases this.2 with h | h
    · simp [h]
    · rw [decide_eq_true (show absN (z.getD i 0 - z.getD (i - 1) 0) ≤ m.step by omega)]; simp
  · have := List.all_eq_true.1 g4 x hx
    simpa using this
theorem firstK_some {m : MkM} (hm : isMk m = true) : ∃ k, firstK m m.chambers.toNat [] = some k := by
  obtain ⟨h1, h2, h3, h4⟩ := zig_ok hm
  have := firstK_not m.chambers.toNat [] (zig m.chambers m.depths) h1 h2 h3 h4
  cases hh : firstK m m.chambers.toNat [] with
  | some k => exact ⟨k, rfl⟩
  | none => exact absurd hh this
theorem nextTo_len {m : MkM} {c k : List Int} (hl : (c.length : Int) = m.chambers) (hc : ∀ x ∈ c, 0 ≤ x ∧ x < m.depths) : ∀ j, j ≤ c.length → nextTo m c j = some k → k.length = c.length ∧ okTo m k = true ∧ m.least ≤ (kindsTo k k.length : Int) ∧ ∀ x ∈ k, 0 ≤ x ∧ x < m.depths
  | 0, _, h => by cases h
  | j + 1, hj, h => by
    cases hh : nextTo m c j with
    | some k' =>
      rw [nextTo_some hh (j + 1) (by omega)] at h
      injection h with h
      subst h
      exact nextTo_len hl hc j (by omega) hh
    | none =>
      rw [nextTo_none hh] at h
      obtain ⟨e, h1, h2⟩ := firstD_out h
      obtain ⟨g1, g2, g3, g4⟩ := firstK_len j _ k h2
      have hi : c.length - 1 - j < c.length := by omega
      have hx := hc c[c.length - 1 - j] (List.getElem_mem hi)
      have hgd : c.getD (c.length - 1 - j) 0 = c[c.length - 1 - j] := by simp [List.getD_eq_getElem?_getD, hi]
      rw [hgd] at h1 g1 g4
      refine ⟨by rw [g1]; simp; omega, g2, g3, g4 fun x hx2 => ?_⟩
      rcases List.mem_append.1 hx2 with h | h
      · exact hc x (List.mem_of_mem_take h)
      · simp at h; omega
end Go.Vc


/-
  Draws of makers and keys.
-/
set_option linter.unusedVariables false
set_option linter.unusedSimpArgs false
set_option linter.unnecessarySimpa false
namespace Go.Vc
open Go.Proofs
set_option maxRecDepth 100000
set_option maxHeartbeats 4000000
def mkV (bs : List UInt8) (s : Src) : MkM × Src :=
  let a := nx bs 3 s
  let b := nx bs 3 a.2
  let c := nx bs (2 + b.1 - 1) b.2
  let d := nx bs (2 + a.1) c.2
  let e := nx bs 2 d.2
  (⟨2 + a.1, 2 + b.1, 1 + c.1, 1 + d.1, 1 + e.1⟩, e.2)
theorem mkV_ok (bs : List UInt8) {s : Src} (h : SrcOk s) : SrcOk (mkV bs s).2 ∧ isMk (mkV bs s).1 = true ∧ (mkV bs s).1.chambers ≤ 4 ∧ (mkV bs s).1.depths ≤ 4 := by
  have h1 := nx_ok bs 3 h
  have h2 := nx_ok bs 3 h1.2.2.2
  have h3 := nx_ok bs (2 + (nx bs 3 (nx bs 3 s).2).1 - 1) h2.2.2.2
  have h4 := nx_ok bs (2 + (nx bs 3 s).1) h3.2.2.2
  have h5 := nx_ok bs 2 h4.2.2.2
  dsimp only [mkV]
  generalize nx bs 3 s = a at *
  generalize nx bs 3 a.2 = b at *
  generalize nx bs (2 + b.1 - 1) b.2 = c at *
  generalize nx bs (2 + a.1) c.2 = d at *
  generalize nx bs 2 d.2 = e at *
  refine ⟨h5.2.2.2, ?_, by have := h1.2.2.1 (by omega); omega, by have := h2.2.2.1 (by omega); omega⟩
  have a1 := h1.2.2.1 (by omega)
  have b1 := h2.2.2.1 (by omega)
  have d1 := h4.2.2.1 (by omega)
  have e1 := h5.2.2.1 (by omega)
  have c1 : c.1 ≤ b.1 := by
    by_cases hb : b.1 = 0
    · have := h3.2.1 (by omega); omega
    · have := h3.2.2.1 (by omega); omega
  simp only [isMk, isIn, Bool.and_eq_true, decide_eq_true_eq]
  split <;> omega
theorem c_l02Valid (v : Nat) (bs : List UInt8) (s : Src) (h : SrcOk s) (hl : bs.length ≤ 4096) :
    FnM Tryz.prog 92 [srcB v bs s] [.ptr 1000000000 v 0 0] (fun x io => x = eMk (mkV bs s).1 ∧ io = [srcB v bs (mkV bs s).2]) := by
  refine FnM.of_vcN 34 [.cell 2 25] Tryz.func92 rfl rfl rfl rfl rfl (of_decide_eq_true rfl) ?_
  have h1 := nx_ok bs 3 h
  have h2 := nx_ok bs 3 h1.2.2.2
  have h3 := nx_ok bs (2 + (nx bs 3 (nx bs 3 s).2).1 - 1) h2.2.2.2
  have h4 := nx_ok bs (2 + (nx bs 3 s).1) h3.2.2.2
  have h5 := nx_ok bs 2 h4.2.2.2
  have q1 := fun v => c_l01Next v bs 3 s h hl
  have q2 := fun v => c_l01Next v bs 3 _ h1.2.2.2 hl
  have q3 := fun v => c_l01Next v bs (2 + (nx bs 3 (nx bs 3 s).2).1 - 1) _ h2.2.2.2 hl
  have q4 := fun v => c_l01Next v bs (2 + (nx bs 3 s).1) _ h3.2.2.2 hl
  have q5 := fun v => c_l01Next v bs 2 _ h4.2.2.2 hl
  dsimp only [mkV]
  generalize nx bs 3 s = a at *
  generalize nx bs 3 a.2 = b at *
  generalize nx bs (2 + b.1 - 1) b.2 = c at *
  generalize nx bs (2 + a.1) c.2 = d at *
  generalize nx bs 2 d.2 = e at *
  have a1 := h1.2.2.1 (by omega)
  have b1 := h2.2.2.1 (by omega)
  have d1 := h4.2.2.1 (by omega)
  have e1 := h5.2.2.1 (by omega)
  have a0 := h1.1
  have b0 := h2.1
  have c0 := h3.1
  have d0 := h4.1
  have e0 := h5.1
  have c1 : c.1 ≤ b.1 := by
    by_cases hb : b.1 = 0
    · have := h3.2.1 (by omega); omega
    · have := h3.2.2.1 (by omega); omega
  have m1 : (if 2 + a.1 < 2 then 2 + a.1 else 2) = (2 : Int) := if_neg (by omega)
  have m2 : (if 2 + b.1 < 2 then 2 + b.1 else 2) = (2 : Int) := if_neg (by omega)
  clear h1 h2 h3 h4 h5
  simp -dsimp -implicitDefEqProofs only [go_sem, ↓reduceIte, Nat.reduceEqDiff, Nat.reduceLT, Nat.reduceAdd, Nat.reduceMul, Nat.reduceLeDiff, Nat.le_refl, Int.natCast_zero, Int.toNat_natCast, Int.reduceToNat]
  (refine sCallT_io [1000000000] ?_; simp -dsimp -implicitDefEqProofs only [go_sem, ↓reduceIte, Nat.reduceEqDiff, Nat.reduceLT, Nat.reduceAdd, Nat.reduceMul, Nat.reduceLeDiff, Nat.le_refl, Int.natCast_zero, Int.toNat_natCast, Int.reduceToNat]; refine sCallM_one (q1 _) ?_; simp -dsimp -implicitDefEqProofs only [go_sem, ↓reduceIte, Nat.reduceEqDiff, Nat.reduceLT, Nat.reduceAdd, Nat.reduceMul, Nat.reduceLeDiff, Nat.le_refl, Int.natCast_zero, Int.toNat_natCast, Int.reduceToNat])
  ((repeat' (with_reducible refine And.intro ?_ ?_)); all_goals try (first | omega | (refine ⟨?_, ?_⟩ <;> omega) | (exact rfl)))
  (refine sCallT_io [1000000000] ?_; simp -dsimp -implicitDefEqProofs only [go_sem, ↓reduceIte, Nat.reduceEqDiff, Nat.reduceLT, Nat.reduceAdd, Nat.reduceMul, Nat.reduceLeDiff, Nat.le_refl, Int.natCast_zero, Int.toNat_natCast, Int.reduceToNat]; refine sCallM_one (q2 _) ?_; simp -dsimp -implicitDefEqProofs only [go_sem, ↓reduceIte, Nat.reduceEqDiff, Nat.reduceLT, Nat.reduceAdd, Nat.reduceMul, Nat.reduceLeDiff, Nat.le_refl, Int.natCast_zero, Int.toNat_natCast, Int.reduceToNat])
  ((repeat' (with_reducible refine And.intro ?_ ?_)); all_goals try (first | omega | (refine ⟨?_, ?_⟩ <;> omega) | (exact rfl)))
  (refine sCallT_io [1000000000] ?_; simp -dsimp -implicitDefEqProofs only [go_sem, ↓reduceIte, Nat.reduceEqDiff, Nat.reduceLT, Nat.reduceAdd, Nat.reduceMul, Nat.reduceLeDiff, Nat.le_refl, Int.natCast_zero, Int.toNat_natCast, Int.reduceToNat]; refine sCallM_one (q3 _) ?_; simp -dsimp -implicitDefEqProofs only [go_sem, ↓reduceIte, Nat.reduceEqDiff, Nat.reduceLT, Nat.reduceAdd, Nat.reduceMul, Nat.reduceLeDiff, Nat.le_refl, Int.natCast_zero, Int.toNat_natCast, Int.reduceToNat])
  ((repeat' (with_reducible refine And.intro ?_ ?_)); all_goals try (first | omega | (refine ⟨?_, ?_⟩ <;> omega) | (exact rfl)))
  (refine sCallT_io [1000000000] ?_; simp -dsimp -implicitDefEqProofs only [go_sem, ↓reduceIte, Nat.reduceEqDiff, Nat.reduceLT, Nat.reduceAdd, Nat.reduceMul, Nat.reduceLeDiff, Nat.le_refl, Int.natCast_zero, Int.toNat_natCast, Int.reduceToNat]; refine sCallM_one (q4 _) ?_; simp -dsimp -implicitDefEqProofs only [go_sem, ↓reduceIte, Nat.reduceEqDiff, Nat.reduceLT, Nat.reduceAdd, Nat.reduceMul, Nat.reduceLeDiff, Nat.le_refl, Int.natCast_zero, Int.toNat_natCast, Int.reduceToNat])
  ((repeat' (with_reducible refine And.intro ?_ ?_)); all_goals try (first | omega | (refine ⟨?_, ?_⟩ <;> omega) | (exact rfl)))
  simp only [m1, m2]
  (refine sCallT_io [1000000000] ?_; simp -dsimp -implicitDefEqProofs only [go_sem, ↓reduceIte, Nat.reduceEqDiff, Nat.reduceLT, Nat.reduceAdd, Nat.reduceMul, Nat.reduceLeDiff, Nat.le_refl, Int.natCast_zero, Int.toNat_natCast, Int.reduceToNat]; refine sCallM_one (q5 _) ?_; simp -dsimp -implicitDefEqProofs only [go_sem, ↓reduceIte, Nat.reduceEqDiff, Nat.reduceLT, Nat.reduceAdd, Nat.reduceMul, Nat.reduceLeDiff, Nat.le_refl, Int.natCast_zero, Int.toNat_natCast, Int.reduceToNat])
  ((repeat' (with_reducible refine And.intro ?_ ?_)); all_goals try (first | omega | (refine ⟨?_, ?_⟩ <;> omega) | (exact rfl)))
  all_goals trace_state
def mkD (bs : List UInt8) (s : Src) : MkM × Src :=
  let v := mkV bs s
  let m := v.1
  let n := nx bs 30 v.2
  if n.1 = 0 then (⟨(pk bs [1, 6, 7] n.2).1, m.depths, m.step, m.same, m.least⟩, (pk bs [1, 6, 7] n.2).2)
  else if n.1 = 1 then (⟨m.chambers, (pk bs [1, 8, 9] n.2).1, m.step, m.same, m.least⟩, (pk bs [1, 8, 9] n.2).2)
  else if n.1 = 2 then (⟨m.chambers, m.depths, (pk bs [0, m.depths - 1, m.depths] n.2).1, m.same, m.least⟩, (pk bs [0, m.depths - 1, m.depths] n.2).2)
  else if n.1 = 3 then (⟨m.chambers, m.depths, m.step, (pk bs [0, m.chambers, m.chambers + 1] n.2).1, m.least⟩, (pk bs [0, m.chambers, m.chambers + 1] n.2).2)
  else if n.1 = 4 then (⟨m.chambers, m.depths, m.step, m.same, (pk bs [0, (if m.depths < m.chambers then m.depths else m.chambers), (if m.depths < m.chambers then m.depths else m.chambers) + 1] n.2).1⟩, (pk bs [0, (if m.depths < m.chambers then m.depths else m.chambers), (if m.depths < m.chambers then m.depths else m.chambers) + 1] n.2).2)
  else if n.1 = 5 then (⟨6, 4 + (nx bs 2 n.2).1, 2 + (nx bs 2 (nx bs 2 n.2).2).1, 2, 3⟩, (nx bs 2 (nx bs 2 n.2).2).2)
  else (m, n.2)
theorem mkD_ok (bs : List UInt8) {s : Src} (h : SrcOk s) : SrcOk (mkD bs s).2 := by
  have hv := (mkV_ok bs h).1
  have hn := (nx_ok bs 30 hv).2.2.2
  dsimp only [mkD]
  generalize mkV bs s = v at *
  generalize nx bs 30 v.2 = n at *
  have h2 := (nx_ok bs 2 hn).2.2.2
  have h3 := (nx_ok bs 2 h2).2.2.2
  split
  · exact pk_ok bs _ hn
  split
  · exact pk_ok bs _ hn
  split
  · exact pk_ok bs _ hn
  split
  · exact pk_ok bs _ hn
  split
  · exact pk_ok bs _ hn
  split
  · exact h3
  · exact hn
theorem c_l02Draw (v : Nat) (bs : List UInt8) (s : Src) (h : SrcOk s) (hl : bs.length ≤ 4096) :
    FnM Tryz.prog 44 [srcB v bs s] [.ptr 1000000000 v 0 0] (fun x io => x = eMk (mkD bs s).1 ∧ io = [srcB v bs (mkD bs s).2]) := by
  refine FnM.of_vcN 69 [.cell 2 25] Tryz.func44 rfl rfl rfl rfl rfl (of_decide_eq_true rfl) ?_
  obtain ⟨hv, hm, hc4, hd4⟩ := mkV_ok bs h
  have hnum := isMk_num hm
  have hn := nx_ok bs 30 hv
  have q1 := fun v => c_l02Valid v bs s h hl
  have q2 := fun v => c_l01Next v bs 30 _ hv hl
  dsimp only [mkD]
  generalize mkV bs s = p at *
  obtain ⟨m, s1⟩ := p
  dsimp only at *
  generalize nx bs 30 s1 = n at *
  obtain ⟨n0, n1, n2, n3⟩ := hn
  have n2 := n2 (by omega)
  simp -dsimp -implicitDefEqProofs only [go_sem, ↓reduceIte, Nat.reduceEqDiff, Nat.reduceLT, Nat.reduceAdd, Nat.reduceMul, Nat.reduceLeDiff, Nat.le_refl, Int.natCast_zero, Int.toNat_natCast, Int.reduceToNat]
  (refine sCallT_io [1000000000] ?_; simp -dsimp -implicitDefEqProofs only [go_sem, ↓reduceIte, Nat.reduceEqDiff, Nat.reduceLT, Nat.reduceAdd, Nat.reduceMul, Nat.reduceLeDiff, Nat.le_refl, Int.natCast_zero, Int.toNat_natCast, Int.reduceToNat]; refine sCallM_one (q1 _) ?_; simp -dsimp -implicitDefEqProofs only [go_sem, ↓reduceIte, Nat.reduceEqDiff, Nat.reduceLT, Nat.reduceAdd, Nat.reduceMul, Nat.reduceLeDiff, Nat.le_refl, Int.natCast_zero, Int.toNat_natCast, Int.reduceToNat])
  (refine sCallT_io [1000000000] ?_; simp -dsimp -implicitDefEqProofs only [go_sem, ↓reduceIte, Nat.reduceEqDiff, Nat.reduceLT, Nat.reduceAdd, Nat.reduceMul, Nat.reduceLeDiff, Nat.le_refl, Int.natCast_zero, Int.toNat_natCast, Int.reduceToNat]; refine sCallM_one (q2 _) ?_; simp -dsimp -implicitDefEqProofs only [go_sem, ↓reduceIte, Nat.reduceEqDiff, Nat.reduceLT, Nat.reduceAdd, Nat.reduceMul, Nat.reduceLeDiff, Nat.le_refl, Int.natCast_zero, Int.toNat_natCast, Int.reduceToNat])
  rcases b0 : (n.1 == 0) with _ | _
  rotate_left
  · have e0 : n.1 = 0 := beq_iff_eq.1 b0
    rw [if_pos e0]
    have qp := fun v v2 => c_l01Pick v v2 true bs [1, 6, 7] _ n.2 rfl (by simp) (by simp) n3 hl
    generalize pk bs [1, 6, 7] n.2 = pp at *
    clear e0
    simp -dsimp -implicitDefEqProofs only [go_sem, ↓reduceIte, Nat.reduceEqDiff, Nat.reduceLT, Nat.reduceAdd, Nat.reduceMul, Nat.reduceLeDiff, Nat.le_refl, Int.natCast_zero, Int.toNat_natCast, Int.reduceToNat, b0]
    ((repeat' (with_reducible refine And.intro ?_ ?_)); all_goals try (first | omega | (refine ⟨?_, ?_⟩ <;> omega) | (exact rfl)))
    (refine sCallT_io [1000000000, 11] ?_; simp -dsimp -implicitDefEqProofs only [go_sem, ↓reduceIte, Nat.reduceEqDiff, Nat.reduceLT, Nat.reduceAdd, Nat.reduceMul, Nat.reduceLeDiff, Nat.le_refl, Int.natCast_zero, Int.toNat_natCast, Int.reduceToNat]; refine sCallM_one (qp _ _) ?_; simp -dsimp -implicitDefEqProofs only [go_sem, ↓reduceIte, Nat.reduceEqDiff, Nat.reduceLT, Nat.reduceAdd, Nat.reduceMul, Nat.reduceLeDiff, Nat.le_refl, Int.natCast_zero, Int.toNat_natCast, Int.reduceToNat])
    ((repeat' (with_reducible refine And.intro ?_ ?_)); all_goals try (first | omega | (refine ⟨?_, ?_⟩ <;> omega) | (exact rfl)))
    all_goals trace_state
  rw [if_neg (beq_eq_false_iff_ne.1 b0)]
  rcases b1 : (n.1 == 1) with _ | _
  rotate_left
  · have e1 : n.1 = 1 := beq_iff_eq.1 b1
    rw [if_pos e1]
    have qp := fun v v2 => c_l01Pick v v2 true bs [1, 8, 9] _ n.2 rfl (by simp) (by simp) n3 hl
    generalize pk bs [1, 8, 9] n.2 = pp at *
    clear e1
    simp -dsimp -implicitDefEqProofs only [go_sem, ↓reduceIte, Nat.reduceEqDiff, Nat.reduceLT, Nat.reduceAdd, Nat.reduceMul, Nat.reduceLeDiff, Nat.le_refl, Int.natCast_zero, Int.toNat_natCast, Int.reduceToNat, b0, b1]
    ((repeat' (with_reducible refine And.intro ?_ ?_)); all_goals try (first | omega | (refine ⟨?_, ?_⟩ <;> omega) | (exact rfl)))
    (refine sCallT_io [1000000000, 17] ?_; simp -dsimp -implicitDefEqProofs only [go_sem, ↓reduceIte, Nat.reduceEqDiff, Nat.reduceLT, Nat.reduceAdd, Nat.reduceMul, Nat.reduceLeDiff, Nat.le_refl, Int.natCast_zero, Int.toNat_natCast, Int.reduceToNat]; refine sCallM_one (qp _ _) ?_; simp -dsimp -implicitDefEqProofs only [go_sem, ↓reduceIte, Nat.reduceEqDiff, Nat.reduceLT, Nat.reduceAdd, Nat.reduceMul, Nat.reduceLeDiff, Nat.le_refl, Int.natCast_zero, Int.toNat_natCast, Int.reduceToNat])
    ((repeat' (with_reducible refine And.intro ?_ ?_)); all_goals try (first | omega | (refine ⟨?_, ?_⟩ <;> omega) | (exact rfl)))
    all_goals trace_state
  rw [if_neg (beq_eq_false_iff_ne.1 b1)]
  rcases b2 : (n.1 == 2) with _ | _
  rotate_left
  · have e2 : n.1 = 2 := beq_iff_eq.1 b2
    rw [if_pos e2]
    have qp := fun v v2 => c_l01Pick v v2 true bs [0, m.depths - 1, m.depths] _ n.2 rfl (by simp) (by simp) n3 hl
    generalize pk bs [0, m.depths - 1, m.depths] n.2 = pp at *
    clear e2
    simp -dsimp -implicitDefEqProofs only [go_sem, ↓reduceIte, Nat.reduceEqDiff, Nat.reduceLT, Nat.reduceAdd, Nat.reduceMul, Nat.reduceLeDiff, Nat.le_refl, Int.natCast_zero, Int.toNat_natCast, Int.reduceToNat, b0, b1, b2]
    ((repeat' (with_reducible refine And.intro ?_ ?_)); all_goals try (first | omega | (refine ⟨?_, ?_⟩ <;> omega) | (exact rfl)))
    (refine sCallT_io [1000000000, 28] ?_; simp -dsimp -implicitDefEqProofs only [go_sem, ↓reduceIte, Nat.reduceEqDiff, Nat.reduceLT, Nat.reduceAdd, Nat.reduceMul, Nat.reduceLeDiff, Nat.le_refl, Int.natCast_zero, Int.toNat_natCast, Int.reduceToNat]; refine sCallM_one (qp _ _) ?_; simp -dsimp -implicitDefEqProofs only [go_sem, ↓reduceIte, Nat.reduceEqDiff, Nat.reduceLT, Nat.reduceAdd, Nat.reduceMul, Nat.reduceLeDiff, Nat.le_refl, Int.natCast_zero, Int.toNat_natCast, Int.reduceToNat])
    ((repeat' (with_reducible refine And.intro ?_ ?_)); all_goals try (first | omega | (refine ⟨?_, ?_⟩ <;> omega) | (exact rfl)))
    all_goals trace_state
  rw [if_neg (beq_eq_false_iff_ne.1 b2)]
  rcases b3 : (n.1 == 3) with _ | _
  rotate_left
  · have e3 : n.1 = 3 := beq_iff_eq.1 b3
    rw [if_pos e3]
    have qp := fun v v2 => c_l01Pick v v2 true bs [0, m.chambers, m.chambers + 1] _ n.2 rfl (by simp) (by simp) n3 hl
    generalize pk bs [0, m.chambers, m.chambers + 1] n.2 = pp at *
    clear e3
    simp -dsimp -implicitDefEqProofs only [go_sem, ↓reduceIte, Nat.reduceEqDiff, Nat.reduceLT, Nat.reduceAdd, Nat.reduceMul, Nat.reduceLeDiff, Nat.le_refl, Int.natCast_zero, Int.toNat_natCast, Int.reduceToNat, b0, b1, b2, b3]
    ((repeat' (with_reducible refine And.intro ?_ ?_)); all_goals try (first | omega | (refine ⟨?_, ?_⟩ <;> omega) | (exact rfl)))
    (refine sCallT_io [1000000000, 39] ?_; simp -dsimp -implicitDefEqProofs only [go_sem, ↓reduceIte, Nat.reduceEqDiff, Nat.reduceLT, Nat.reduceAdd, Nat.reduceMul, Nat.reduceLeDiff, Nat.le_refl, Int.natCast_zero, Int.toNat_natCast, Int.reduceToNat]; refine sCallM_one (qp _ _) ?_; simp -dsimp -implicitDefEqProofs only [go_sem, ↓reduceIte, Nat.reduceEqDiff, Nat.reduceLT, Nat.reduceAdd, Nat.reduceMul, Nat.reduceLeDiff, Nat.le_refl, Int.natCast_zero, Int.toNat_natCast, Int.reduceToNat])
    ((repeat' (with_reducible refine And.intro ?_ ?_)); all_goals try (first | omega | (refine ⟨?_, ?_⟩ <;> omega) | (exact rfl)))
    all_goals trace_state
  rw [if_neg (beq_eq_false_iff_ne.1 b3)]
  rcases b4 : (n.1 == 4) with _ | _
  rotate_left
  · have e4 : n.1 = 4 := beq_iff_eq.1 b4
    rw [if_pos e4]
    have qp := fun v v2 => c_l01Pick v v2 true bs [0, (if m.depths < m.chambers then m.depths else m.chambers), (if m.depths < m.chambers then m.depths else m.chambers) + 1] _ n.2 rfl (by simp) (by simp) n3 hl
    generalize pk bs [0, (if m.depths < m.chambers then m.depths else m.chambers), (if m.depths < m.chambers then m.depths else m.chambers) + 1] n.2 = pp at *
    clear e4
    simp -dsimp -implicitDefEqProofs only [go_sem, ↓reduceIte, Nat.reduceEqDiff, Nat.reduceLT, Nat.reduceAdd, Nat.reduceMul, Nat.reduceLeDiff, Nat.le_refl, Int.natCast_zero, Int.toNat_natCast, Int.reduceToNat, b0, b1, b2, b3, b4]
    ((repeat' (with_reducible refine And.intro ?_ ?_)); all_goals try (first | omega | (refine ⟨?_, ?_⟩ <;> omega) | (exact rfl)))
    (refine sCallT_io [1000000000, 56] ?_; simp -dsimp -implicitDefEqProofs only [go_sem, ↓reduceIte, Nat.reduceEqDiff, Nat.reduceLT, Nat.reduceAdd, Nat.reduceMul, Nat.reduceLeDiff, Nat.le_refl, Int.natCast_zero, Int.toNat_natCast, Int.reduceToNat]; refine sCallM_one (qp _ _) ?_; simp -dsimp -implicitDefEqProofs only [go_sem, ↓reduceIte, Nat.reduceEqDiff, Nat.reduceLT, Nat.reduceAdd, Nat.reduceMul, Nat.reduceLeDiff, Nat.le_refl, Int.natCast_zero, Int.toNat_natCast, Int.reduceToNat])
    ((repeat' (with_reducible refine And.intro ?_ ?_)); all_goals try (first | omega | (refine ⟨?_, ?_⟩ <;> omega) | (exact rfl)))
    all_goals trace_state
  rw [if_neg (beq_eq_false_iff_ne.1 b4)]
  rcases b5 : (n.1 == 5) with _ | _
  rotate_left
  · have e5 : n.1 = 5 := beq_iff_eq.1 b5
    rw [if_pos e5]
    have x1 := nx_ok bs 2 n3
    have x2 := nx_ok bs 2 x1.2.2.2
    have qa := fun v => c_l01Next v bs 2 _ n3 hl
    have qb := fun v => c_l01Next v bs 2 _ x1.2.2.2 hl
    generalize nx bs 2 n.2 = A at *
    generalize nx bs 2 A.2 = Bq at *
    have x3 := x1.2.2.1 (by omega)
    have x4 := x2.2.2.1 (by omega)
    have x5 := x1.1
    have x6 := x2.1
    clear e5 x1 x2
    simp -dsimp -implicitDefEqProofs only [go_sem, ↓reduceIte, Nat.reduceEqDiff, Nat.reduceLT, Nat.reduceAdd, Nat.reduceMul, Nat.reduceLeDiff, Nat.le_refl, Int.natCast_zero, Int.toNat_natCast, Int.reduceToNat, b0, b1, b2, b3, b4, b5]
    (refine sCallT_io [1000000000] ?_; simp -dsimp -implicitDefEqProofs only [go_sem, ↓reduceIte, Nat.reduceEqDiff, Nat.reduceLT, Nat.reduceAdd, Nat.reduceMul, Nat.reduceLeDiff, Nat.le_refl, Int.natCast_zero, Int.toNat_natCast, Int.reduceToNat]; refine sCallM_one (qa _) ?_; simp -dsimp -implicitDefEqProofs only [go_sem, ↓reduceIte, Nat.reduceEqDiff, Nat.reduceLT, Nat.reduceAdd, Nat.reduceMul, Nat.reduceLeDiff, Nat.le_refl, Int.natCast_zero, Int.toNat_natCast, Int.reduceToNat])
    ((repeat' (with_reducible refine And.intro ?_ ?_)); all_goals try (first | omega | (refine ⟨?_, ?_⟩ <;> omega) | (exact rfl)))
    (refine sCallT_io [1000000000] ?_; simp -dsimp -implicitDefEqProofs only [go_sem, ↓reduceIte, Nat.reduceEqDiff, Nat.reduceLT, Nat.reduceAdd, Nat.reduceMul, Nat.reduceLeDiff, Nat.le_refl, Int.natCast_zero, Int.toNat_natCast, Int.reduceToNat]; refine sCallM_one (qb _) ?_; simp -dsimp -implicitDefEqProofs only [go_sem, ↓reduceIte, Nat.reduceEqDiff, Nat.reduceLT, Nat.reduceAdd, Nat.reduceMul, Nat.reduceLeDiff, Nat.le_refl, Int.natCast_zero, Int.toNat_natCast, Int.reduceToNat])
    ((repeat' (with_reducible refine And.intro ?_ ?_)); all_goals try (first | omega | (refine ⟨?_, ?_⟩ <;> omega) | (exact rfl)))
    all_goals trace_state
  rw [if_neg (beq_eq_false_iff_ne.1 b5)]
  simp -dsimp -implicitDefEqProofs only [go_sem, ↓reduceIte, Nat.reduceEqDiff, Nat.reduceLT, Nat.reduceAdd, Nat.reduceMul, Nat.reduceLeDiff, Nat.le_refl, Int.natCast_zero, Int.toNat_natCast, Int.reduceToNat, b0, b1, b2, b3, b4, b5]
  ((repeat' (with_reducible refine And.intro ?_ ?_)); all_goals try (first | omega | (refine ⟨?_, ?_⟩ <;> omega) | (exact rfl)))
  all_goals trace_state
end Go.Vc


/-
  Draws of keys.
-/
set_option linter.unusedVariables false
set_option linter.unusedSimpArgs false
set_option linter.unnecessarySimpa false
namespace Go.Vc
open Go.Proofs
set_option maxRecDepth 100000
set_option maxHeartbeats 4000000
def cutsTo (bs : List UInt8) (D : Int) (s : Src) : Nat → List Int × Src
  | 0 => ([], s)
  | i + 1 => ((cutsTo bs D s i).1 ++ [(nx bs D (cutsTo bs D s i).2).1], (nx bs D (cutsTo bs D s i).2).2)
theorem cutsTo_ok {bs : List UInt8} {D : Int} {s : Src} (h : SrcOk s) (hD : 2 ≤ D) : ∀ i, SrcOk (cutsTo bs D s i).2 ∧ (cutsTo bs D s i).1.length = i ∧ ∀ x ∈ (cutsTo bs D s i).1, 0 ≤ x ∧ x < D
  | 0 => ⟨h, rfl, fun x hx => by cases hx⟩
  | i + 1 => by
    obtain ⟨h1, h2, h3⟩ := cutsTo_ok h hD i (bs := bs)
    have hn := nx_ok bs D h1
    refine ⟨hn.2.2.2, by simp [cutsTo, h2], fun x hx => ?_⟩
    simp only [cutsTo] at hx
    rcases List.mem_append.1 hx with h | h
    · exact h3 x h
    · simp at h; rw [h]; exact ⟨hn.1, hn.2.2.1 (by omega)⟩
def someK (m : MkM) (c : List Int) : List Int := match nextTo m c c.length with
  | some k => k
  | none => (firstK m m.chambers.toNat []).getD []
theorem someK_ok {m : MkM} {c : List Int} (hm : isMk m = true) (hl : (c.length : Int) = m.chambers) (hc : ∀ x ∈ c, 0 ≤ x ∧ x < m.depths) :
    ((someK m c).length : Int) = m.chambers ∧ okTo m (someK m c) = true ∧ m.least ≤ (kindsTo (someK m c) (someK m c).length : Int) ∧ ∀ x ∈ someK m c, 0 ≤ x ∧ x < m.depths := by
  have hnum := isMk_num hm
  unfold someK
  cases h : nextTo m c c.length with
  | some k =>
    obtain ⟨g1, g2, g3, g4⟩ := nextTo_len hl hc c.length (Nat.le_refl _) h
    exact ⟨by simp only; omega, g2, g3, g4⟩
  | none =>
    obtain ⟨k, hk⟩ := firstK_some hm
    obtain ⟨g1, g2, g3, g4⟩ := firstK_len _ _ _ hk
    simp only [hk, Option.getD_some]
    exact ⟨by simp at g1; omega, g2, g3, g4 fun x hx => by cases hx⟩
theorem c_l02Some (v : Nat) (bs : List UInt8) (s : Src) (m : MkM) (h : SrcOk s) (hm : isMk m = true) (hl : bs.length ≤ 4096) :
    FnMR Tryz.prog 94 [srcB v bs s] [.ptr 1000000000 v 0 0, eMk m] (fun x io => x = eIs (someK m (cutsTo bs m.depths s m.chambers.toNat).1) ∧ io = [srcB v bs (cutsTo bs m.depths s m.chambers.toNat).2]) := by
  refine FnMR.of_vc 37 [.tmp 4] Tryz.func94 rfl rfl rfl rfl rfl (of_decide_eq_true rfl) ?_
  have ⟨⟨hch1, hch2⟩, hd1, hd2⟩ := isMk_num hm
  have hct := fun i => cutsTo_ok (bs := bs) (D := m.depths) h hd1 i
  simp -dsimp -implicitDefEqProofs only [go_sem, ↓reduceIte, Nat.reduceEqDiff, Nat.reduceLT, Nat.reduceAdd, Nat.reduceMul, Nat.reduceLeDiff, Nat.le_refl, Int.natCast_zero, Int.toNat_natCast, Int.reduceToNat]
  refine Later.up [0, 3] [20, 21, 22] [9, 1000000000] m.chambers.toNat (fun _ => True) (fun i => [(6, eI i), (5, .ref 9 0 0 (cutsTo bs m.depths s i).1.length)]) (fun i => [(9, .row 0 ⟨1, false⟩ true ((cutsTo bs m.depths s i).1.map eI)), (1000000000, srcB v bs (cutsTo bs m.depths s i).2)]) trivial ?_ rfl (fun i hi _ => ?_) (fun _ => ?_)
  · simp -dsimp -implicitDefEqProofs only [go_sem, ↓reduceIte, Nat.reduceEqDiff, Nat.reduceLT, Nat.reduceAdd, Nat.reduceMul, Nat.reduceLeDiff, Nat.le_refl, Int.natCast_zero, Int.toNat_natCast, Int.reduceToNat]
    try simp [cutsTo]
  · have hlt : decide ((i : Int) < m.chambers) = true := decide_eq_true (by omega)
    obtain ⟨h1, h2, h3⟩ := hct i
    have hn := nx_ok bs m.depths h1
    have q := fun v => c_l01Next v bs m.depths _ h1 hl
    have hsucc : cutsTo bs m.depths s (i + 1) = ((cutsTo bs m.depths s i).1 ++ [(nx bs m.depths (cutsTo bs m.depths s i).2).1], (nx bs m.depths (cutsTo bs m.depths s i).2).2) := rfl
    rw [hsucc]
    clear hsucc hct
    generalize nx bs m.depths (cutsTo bs m.depths s i).2 = a at *
    generalize cutsTo bs m.depths s i = p at *
    have htk : List.take p.1.length (List.map eI p.1) = List.map eI p.1 := List.take_of_length_le (by simp)
    simp -dsimp -implicitDefEqProofs only [pick_nil, pick_cons, look_nil, look_cons, dropB_nil, dropB_cons, inD_nil, inD_cons, inE_nil, inE_cons, or_t_l, or_f_l, Nat.reduceBEq, Nat.reduceDiv, Nat.reduceAdd, beq_self_eq_true, Bool.false_eq_true, Bool.or_false, ↓reduceIte, Nat.reduceEqDiff, List.cons_append, List.nil_append]
    simp -dsimp -implicitDefEqProofs only [go_sem, ↓reduceIte, Nat.reduceEqDiff, Nat.reduceLT, Nat.reduceAdd, Nat.reduceMul, Nat.reduceLeDiff, Nat.le_refl, Int.natCast_zero, Int.toNat_natCast, Int.reduceToNat, hlt]
    (refine sCallT_io [1000000000] ?_; simp -dsimp -implicitDefEqProofs only [go_sem, ↓reduceIte, Nat.reduceEqDiff, Nat.reduceLT, Nat.reduceAdd, Nat.reduceMul, Nat.reduceLeDiff, Nat.le_refl, Int.natCast_zero, Int.toNat_natCast, Int.reduceToNat]; refine sCallM_one (q _) ?_; simp -dsimp -implicitDefEqProofs only [go_sem, ↓reduceIte, Nat.reduceEqDiff, Nat.reduceLT, Nat.reduceAdd, Nat.reduceMul, Nat.reduceLeDiff, Nat.le_refl, Int.natCast_zero, Int.toNat_natCast, Int.reduceToNat])
    exact ⟨by omega, ⟨by omega, by omega⟩, by simp, by simp⟩
  · have hlt : decide (((m.chambers.toNat : Nat) : Int) < m.chambers) = false := decide_eq_false (by omega)
    obtain ⟨h1, h2, h3⟩ := hct m.chambers.toNat
    clear hct
    generalize cutsTo bs m.depths s m.chambers.toNat = p at *
    have hnx := c_l02Next m p.1 hm (by omega) h3
    simp -dsimp -implicitDefEqProofs only [pick_nil, pick_cons, look_nil, look_cons, dropB_nil, dropB_cons, inD_nil, inD_cons, inE_nil, inE_cons, or_t_l, or_f_l, Nat.reduceBEq, Nat.reduceDiv, Nat.reduceAdd, beq_self_eq_true, Bool.false_eq_true, Bool.or_false, ↓reduceIte, Nat.reduceEqDiff, List.cons_append, List.nil_append]
    simp -dsimp -implicitDefEqProofs only [go_sem, ↓reduceIte, Nat.reduceEqDiff, Nat.reduceLT, Nat.reduceAdd, Nat.reduceMul, Nat.reduceLeDiff, Nat.le_refl, Int.natCast_zero, Int.toNat_natCast, Int.reduceToNat, hlt]
    refine sCallT_frz 9 0 ⟨1, false⟩ true (List.map eI p.1) hnx (by decide) ?_ ?_ fun r hr => ?_
    · simp -dsimp -implicitDefEqProofs only [go_sem, ↓reduceIte, Nat.reduceEqDiff, Nat.reduceLT, Nat.reduceAdd, Nat.reduceMul, Nat.reduceLeDiff, Nat.le_refl, Int.natCast_zero, Int.toNat_natCast, Int.reduceToNat]
    · refine frzOk_no ?_ rfl ?_
      · simp -dsimp -implicitDefEqProofs only [go_sem, ↓reduceIte, Nat.reduceEqDiff, Nat.reduceLT, Nat.reduceAdd, Nat.reduceMul, Nat.reduceLeDiff, Nat.le_refl, Int.natCast_zero, Int.toNat_natCast, Int.reduceToNat]
      · have h := frzOk_ref (l := 9) (v := 0) (sh := ⟨1, false⟩) (ys := List.map eI p.1) (xs := []) (r := []) 0 p.1.length (by simp) trivial
        rw [List.drop_zero, List.take_of_length_le (by simp)] at h
        exact h
    · subst hr
      obtain ⟨k0, hk0⟩ := firstK_some hm
      unfold someK
      cases nextTo m p.1 p.1.length with
      | some k =>
        unfold optR
        simp -dsimp -implicitDefEqProofs only [go_sem, ↓reduceIte, Nat.reduceEqDiff, Nat.reduceLT, Nat.reduceAdd, Nat.reduceMul, Nat.reduceLeDiff, Nat.le_refl, Int.natCast_zero, Int.toNat_natCast, Int.reduceToNat]
      | none =>
        rw [hk0]
        unfold optR
        have hf := (c_l02First m hm m.chambers.toNat [] (by simp; omega) (fun x hx => by cases hx)).subs (args' := [eMk m, eNil]) (.cons (.refl _) (.cons (.nil _) .nil))
        unfold firstR at hf
        rw [hk0] at hf
        simp -dsimp -implicitDefEqProofs only [go_sem, ↓reduceIte, Nat.reduceEqDiff, Nat.reduceLT, Nat.reduceAdd, Nat.reduceMul, Nat.reduceLeDiff, Nat.le_refl, Int.natCast_zero, Int.toNat_natCast, Int.reduceToNat]
        refine sCallS_one (r := .tup [eIs k0, eB true]) hf ?_ ?_
        · simp [noLabs, labs, labsL, isClo]
        · simp -dsimp -implicitDefEqProofs only [go_sem, ↓reduceIte, Nat.reduceEqDiff, Nat.reduceLT, Nat.reduceAdd, Nat.reduceMul, Nat.reduceLeDiff, Nat.le_refl, Int.natCast_zero, Int.toNat_natCast, Int.reduceToNat]
          exact rfl
end Go.Vc


/-
  Draws of cuts and of numbers of marks.
-/
set_option linter.unusedVariables false
set_option linter.unusedSimpArgs false
set_option linter.unnecessarySimpa false
namespace Go.Vc
open Go.Proofs
set_option maxRecDepth 100000
set_option maxHeartbeats 4000000
structure MkB (m : MkM) : Prop where
  c : 0 ≤ m.chambers ∧ m.chambers ≤ 7
  d : 0 ≤ m.depths ∧ m.depths ≤ 9
  s : 0 ≤ m.step ∧ m.step ≤ 9
  a : 0 ≤ m.same ∧ m.same ≤ 9
  l : 0 ≤ m.least ∧ m.least ≤ 9
theorem pk3_in {bs : List UInt8} {a b c lo hi : Int} {s : Src} (h : SrcOk s) (ha : lo ≤ a ∧ a ≤ hi) (hb : lo ≤ b ∧ b ≤ hi) (hc : lo ≤ c ∧ c ≤ hi) : lo ≤ (pk bs [a, b, c] s).1 ∧ (pk bs [a, b, c] s).1 ≤ hi := by
  have := pk_mem bs h (xs := [a, b, c]) (by simp)
  simp only [List.mem_cons, List.not_mem_nil, or_false] at this
  rcases this with h | h | h <;> omega
theorem mkD_bnd (bs : List UInt8) {s : Src} (h : SrcOk s) : MkB (mkD bs s).1 := by
  obtain ⟨hv, hm, hc4, hd4⟩ := mkV_ok bs h
  obtain ⟨⟨m1, m2⟩, m3, m4⟩ := isMk_num hm
  have m5 := isMk_same hm
  have hs : 1 ≤ (mkV bs s).1.step ∧ (mkV bs s).1.step ≤ (mkV bs s).1.depths - 1 ∧ 1 ≤ (mkV bs s).1.least ∧ (mkV bs s).1.least ≤ 8 := by
    simp only [isMk, isIn, Bool.and_eq_true, decide_eq_true_eq] at hm
    have := hm.2
    split at this <;> omega
  have hn := (nx_ok bs 30 hv).2.2.2
  dsimp only [mkD]
  generalize mkV bs s = v at *
  generalize nx bs 30 v.2 = n at *
  have h2 := nx_ok bs 2 hn
  have h3 := nx_ok bs 2 h2.2.2.2
  have x1 := h2.2.2.1 (by omega)
  have x2 := h3.2.2.1 (by omega)
  have x3 := h2.1
  have x4 := h3.1
  generalize nx bs 2 (nx bs 2 n.2).2 = z at *
  generalize nx bs 2 n.2 = y at *
  clear h2 h3
  repeat' split
  all_goals (constructor <;> dsimp only <;> first | omega | exact pk3_in hn (by omega) (by omega) (by omega) | trace_state)
/-- cuts that are drawn: those so far, the next one, the source -/
structure CSt where
  cuts : List Int
  at' : Int
  src : Src
def cutSt (bs : List UInt8) (m : MkM) (p : CSt) : CSt :=
  ⟨p.cuts ++ [p.at'],
   if (nx bs 24 (nx bs (2 * (if m.step > 0 then m.step else 0) + 1) p.src).2).1 > 0 then
     (if (if p.at' + (nx bs (2 * (if m.step > 0 then m.step else 0) + 1) p.src).1 - m.step < m.depths - 1 then p.at' + (nx bs (2 * (if m.step > 0 then m.step else 0) + 1) p.src).1 - m.step else m.depths - 1) > 0 then
       (if p.at' + (nx bs (2 * (if m.step > 0 then m.step else 0) + 1) p.src).1 - m.step < m.depths - 1 then p.at' + (nx bs (2 * (if m.step > 0 then m.step else 0) + 1) p.src).1 - m.step else m.depths - 1) else 0)
   else p.at' + (nx bs (2 * (if m.step > 0 then m.step else 0) + 1) p.src).1 - m.step,
   (nx bs 24 (nx bs (2 * (if m.step > 0 then m.step else 0) + 1) p.src).2).2⟩
def cutsN (bs : List UInt8) (m : MkM) (p : CSt) : Nat → CSt
  | 0 => p
  | i + 1 => cutSt bs m (cutsN bs m p i)
theorem cutsN_ok {bs : List UInt8} {m : MkM} (hm : MkB m) {p : CSt} (h : SrcOk p.src) (h2 : p.cuts = []) (h3 : 0 ≤ p.at' ∧ p.at' ≤ 9) : ∀ i, SrcOk (cutsN bs m p i).src ∧ (cutsN bs m p i).cuts.length = i ∧ -20 - 20 * (i : Int) ≤ (cutsN bs m p i).at' ∧ (cutsN bs m p i).at' ≤ 20 + 20 * (i : Int)
  | 0 => ⟨h, by rw [cutsN, h2]; rfl, by simp only [cutsN]; omega, by simp only [cutsN]; omega⟩
  | i + 1 => by
    obtain ⟨g1, g2, g3, g4⟩ := cutsN_ok hm h h2 h3 i (bs := bs)
    simp only [cutsN, cutSt]
    generalize cutsN bs m p i = q at *
    have hm1 := hm.s
    have hm2 := hm.d
    have hst : 0 ≤ 2 * (if m.step > 0 then m.step else 0) + 1 ∧ 2 * (if m.step > 0 then m.step else 0) + 1 ≤ 19 := by split <;> omega
    generalize 2 * (if m.step > 0 then m.step else 0) + 1 = W at *
    have n1 := nx_ok bs W g1
    have n2 : (nx bs W q.src).1 ≤ 19 := by
      by_cases hw : W ≤ 1
      · have := n1.2.1 hw; omega
      · have := n1.2.2.1 (by omega); omega
    generalize nx bs W q.src = a at *
    have n3 := nx_ok bs 24 n1.2.2.2
    generalize nx bs 24 a.2 = b at *
    refine ⟨n3.2.2.2, by simp [g2], ?_, ?_⟩ <;> (repeat' split) <;> omega
def cutsE (bs : List UInt8) (p : CSt) : List Int × Src := if (nx bs 24 p.src).1 = 0 then (p.cuts ++ [0], (nx bs 24 p.src).2) else (p.cuts, (nx bs 24 p.src).2)
def chD (m : MkM) : Int := if m.chambers < 8 then m.chambers else 8
def cutsD (bs : List UInt8) (m : MkM) (s : Src) : List Int × Src :=
  cutsE bs (cutsN bs m ⟨[], (nx bs (if m.depths > 1 then m.depths else 1) s).1, (nx bs (if m.depths > 1 then m.depths else 1) s).2⟩ (chD m).toNat)
theorem cutsE_ok {bs : List UInt8} {p : CSt} (h : SrcOk p.src) : SrcOk (cutsE bs p).2 ∧ (cutsE bs p).1.length ≤ p.cuts.length + 1 := by
  have := (nx_ok bs 24 h).2.2.2
  unfold cutsE
  split
  · exact ⟨this, by simp⟩
  · exact ⟨this, by dsimp only; omega⟩
theorem cuts0_ok {bs : List UInt8} {m : MkM} {s : Src} (hm : MkB m) (h : SrcOk s) : SrcOk (nx bs (if m.depths > 1 then m.depths else 1) s).2 ∧ 0 ≤ (nx bs (if m.depths > 1 then m.depths else 1) s).1 ∧ (nx bs (if m.depths > 1 then m.depths else 1) s).1 ≤ 9 := by
  have hd := hm.d
  have hw : (if m.depths > 1 then m.depths else 1) ≤ 9 := by split <;> omega
  generalize (if m.depths > 1 then m.depths else 1) = W at *
  have hn := nx_ok bs W h
  refine ⟨hn.2.2.2, hn.1, ?_⟩
  by_cases h1 : W ≤ 1
  · have := hn.2.1 h1; omega
  · have := hn.2.2.1 (by omega); omega
theorem cutsD_ok {bs : List UInt8} {m : MkM} {s : Src} (hm : MkB m) (h : SrcOk s) : SrcOk (cutsD bs m s).2 ∧ (cutsD bs m s).1.length ≤ 8 := by
  have h0 := cuts0_ok (bs := bs) hm h
  obtain ⟨h1, h2, _⟩ := cutsN_ok (bs := bs) hm (p := ⟨[], (nx bs (if m.depths > 1 then m.depths else 1) s).1, (nx bs (if m.depths > 1 then m.depths else 1) s).2⟩) h0.1 rfl h0.2 (chD m).toNat
  have h3 := cutsE_ok (bs := bs) h1
  have h4 : (chD m).toNat ≤ 7 := by have := hm.c; unfold chD; split <;> omega
  unfold cutsD
  exact ⟨h3.1, by omega⟩
theorem c_l02DrawCuts (v : Nat) (bs : List UInt8) (m : MkM) (s : Src) (hm : MkB m) (h : SrcOk s) (hl : bs.length ≤ 4096) :
    FnM Tryz.prog 93 [srcB v bs s] [.ptr 1000000000 v 0 0, eMk m] (fun x io => x = eIs (cutsD bs m s).1 ∧ io = [srcB v bs (cutsD bs m s).2]) := by
  refine FnM.of_vcN 53 [.tmp 4] Tryz.func93 rfl rfl rfl rfl rfl (of_decide_eq_true rfl) ?_
  have hc := hm.c
  have hd := hm.d
  have hs := hm.s
  have h0 := cuts0_ok (bs := bs) hm h
  have q0 := fun v => c_l01Next v bs (if m.depths > 1 then m.depths else 1) _ h hl
  unfold cutsD
  generalize nx bs (if m.depths > 1 then m.depths else 1) s = a at *
  have hcn := cutsN_ok (bs := bs) hm (p := ⟨[], a.1, a.2⟩) h0.1 rfl h0.2
  have hch : 0 ≤ chD m ∧ chD m ≤ 7 := by unfold chD; split <;> omega
  simp -dsimp -implicitDefEqProofs only [go_sem, ↓reduceIte, Nat.reduceEqDiff, Nat.reduceLT, Nat.reduceAdd, Nat.reduceMul, Nat.reduceLeDiff, Nat.le_refl, Int.natCast_zero, Int.toNat_natCast, Int.reduceToNat]
  (refine sCallT_io [1000000000] ?_; simp -dsimp -implicitDefEqProofs only [go_sem, ↓reduceIte, Nat.reduceEqDiff, Nat.reduceLT, Nat.reduceAdd, Nat.reduceMul, Nat.reduceLeDiff, Nat.le_refl, Int.natCast_zero, Int.toNat_natCast, Int.reduceToNat]; refine sCallM_one (q0 _) ?_; simp -dsimp -implicitDefEqProofs only [go_sem, ↓reduceIte, Nat.reduceEqDiff, Nat.reduceLT, Nat.reduceAdd, Nat.reduceMul, Nat.reduceLeDiff, Nat.le_refl, Int.natCast_zero, Int.toNat_natCast, Int.reduceToNat])
  refine Later.up [0, 3] [17, 23, 24, 29, 32, 38, 44, 45] [8, 1000000000] (chD m).toNat (fun _ => True) (fun i => [(7, eI i), (6, eI (cutsN bs m ⟨[], a.1, a.2⟩ i).at'), (5, .ref 8 0 0 i)]) (fun i => [(8, .row 0 ⟨1, false⟩ true ((cutsN bs m ⟨[], a.1, a.2⟩ i).cuts.map eI)), (1000000000, srcB v bs (cutsN bs m ⟨[], a.1, a.2⟩ i).src)]) trivial ?_ rfl (fun i hi _ => ?_) (fun _ => ?_)
  · simp -dsimp -implicitDefEqProofs only [go_sem, ↓reduceIte, Nat.reduceEqDiff, Nat.reduceLT, Nat.reduceAdd, Nat.reduceMul, Nat.reduceLeDiff, Nat.le_refl, Int.natCast_zero, Int.toNat_natCast, Int.reduceToNat, cutsN]
  · obtain ⟨g1, g2, g3, g4⟩ := hcn i
    have hlt : decide ((i : Int) < chD m) = true := decide_eq_true (by omega)
    unfold chD at hlt
    clear hcn
    simp only [cutsN, cutSt]
    generalize cutsN bs m ⟨[], a.1, a.2⟩ i = q at *
    have htk : List.take i (List.map eI q.cuts) = List.map eI q.cuts := List.take_of_length_le (by simp; omega)
    have hst : 0 ≤ 2 * (if m.step > 0 then m.step else 0) + 1 ∧ 2 * (if m.step > 0 then m.step else 0) + 1 ≤ 19 := by split <;> omega
    have n1 := nx_ok bs (2 * (if m.step > 0 then m.step else 0) + 1) g1
    have q1 := fun v => c_l01Next v bs (2 * (if m.step > 0 then m.step else 0) + 1) _ g1 hl
    have n2 : (nx bs (2 * (if m.step > 0 then m.step else 0) + 1) q.src).1 ≤ 19 := by
      by_cases hw : (2 * (if m.step > 0 then m.step else 0) + 1) ≤ 1
      · have := n1.2.1 hw; omega
      · have := n1.2.2.1 (by omega); omega
    generalize nx bs (2 * (if m.step > 0 then m.step else 0) + 1) q.src = b at *
    have n3 := nx_ok bs 24 n1.2.2.2
    have q2 := fun v => c_l01Next v bs 24 _ n1.2.2.2 hl
    generalize nx bs 24 b.2 = c at *
    simp -dsimp -implicitDefEqProofs only [pick_nil, pick_cons, look_nil, look_cons, dropB_nil, dropB_cons, inD_nil, inD_cons, inE_nil, inE_cons, or_t_l, or_f_l, Nat.reduceBEq, Nat.reduceDiv, Nat.reduceAdd, beq_self_eq_true, Bool.false_eq_true, Bool.or_false, ↓reduceIte, Nat.reduceEqDiff, List.cons_append, List.nil_append]
    simp -dsimp -implicitDefEqProofs only [go_sem, ↓reduceIte, Nat.reduceEqDiff, Nat.reduceLT, Nat.reduceAdd, Nat.reduceMul, Nat.reduceLeDiff, Nat.le_refl, Int.natCast_zero, Int.toNat_natCast, Int.reduceToNat, hlt, htk]
    ((repeat' (with_reducible refine And.intro ?_ ?_)); all_goals try (first | omega | (refine ⟨?_, ?_⟩ <;> omega) | (exact rfl)))
    refine Later.draw mixed rfl ?_
    simp -dsimp -implicitDefEqProofs only [go_sem, ↓reduceIte, Nat.reduceEqDiff, Nat.reduceLT, Nat.reduceAdd, Nat.reduceMul, Nat.reduceLeDiff, Nat.le_refl, Int.natCast_zero, Int.toNat_natCast, Int.reduceToNat]
    ((repeat' (with_reducible refine And.intro ?_ ?_)); all_goals try (first | omega | (refine ⟨?_, ?_⟩ <;> omega) | (exact rfl)))
    refine sCallX_io [1000000000] rfl ?_
    simp -dsimp -implicitDefEqProofs only [go_sem, ↓reduceIte, Nat.reduceEqDiff, Nat.reduceLT, Nat.reduceAdd, Nat.reduceMul, Nat.reduceLeDiff, Nat.le_refl, Int.natCast_zero, Int.toNat_natCast, Int.reduceToNat]
    refine sCallMX_one (q1 _) ?_
    simp -dsimp -implicitDefEqProofs only [go_sem, ↓reduceIte, Nat.reduceEqDiff, Nat.reduceLT, Nat.reduceAdd, Nat.reduceMul, Nat.reduceLeDiff, Nat.le_refl, Int.natCast_zero, Int.toNat_natCast, Int.reduceToNat]
    ((repeat' (with_reducible refine And.intro ?_ ?_)); all_goals try (first | omega | (refine ⟨?_, ?_⟩ <;> omega) | (exact rfl)))
    (refine sCallT_io [1000000000] ?_; simp -dsimp -implicitDefEqProofs only [go_sem, ↓reduceIte, Nat.reduceEqDiff, Nat.reduceLT, Nat.reduceAdd, Nat.reduceMul, Nat.reduceLeDiff, Nat.le_refl, Int.natCast_zero, Int.toNat_natCast, Int.reduceToNat]; refine sCallM_one (q2 _) ?_; simp -dsimp -implicitDefEqProofs only [go_sem, ↓reduceIte, Nat.reduceEqDiff, Nat.reduceLT, Nat.reduceAdd, Nat.reduceMul, Nat.reduceLeDiff, Nat.le_refl, Int.natCast_zero, Int.toNat_natCast, Int.reduceToNat])
    rcases b0 : decide (c.1 > 0) with _ | _
    · rw [if_neg (of_decide_eq_false b0)]
      simp -dsimp -implicitDefEqProofs only [go_sem, ↓reduceIte, Nat.reduceEqDiff, Nat.reduceLT, Nat.reduceAdd, Nat.reduceMul, Nat.reduceLeDiff, Nat.le_refl, Int.natCast_zero, Int.toNat_natCast, Int.reduceToNat, b0]
      ((repeat' (with_reducible refine And.intro ?_ ?_)); all_goals try (first | omega | (refine ⟨?_, ?_⟩ <;> omega) | (exact rfl)))
      all_goals (simp; done)
    · rw [if_pos (of_decide_eq_true b0)]
      simp -dsimp -implicitDefEqProofs only [go_sem, ↓reduceIte, Nat.reduceEqDiff, Nat.reduceLT, Nat.reduceAdd, Nat.reduceMul, Nat.reduceLeDiff, Nat.le_refl, Int.natCast_zero, Int.toNat_natCast, Int.reduceToNat, b0]
      ((repeat' (with_reducible refine And.intro ?_ ?_)); all_goals try (first | omega | (refine ⟨?_, ?_⟩ <;> omega) | (exact rfl)))
      all_goals (simp; done)
  · obtain ⟨g1, g2, g3, g4⟩ := hcn (chD m).toNat
    have hlt : decide (((chD m).toNat : Int) < chD m) = false := decide_eq_false (by omega)
    generalize hW : chD m = W at *
    unfold chD at hW
    clear hcn
    generalize cutsN bs m ⟨[], a.1, a.2⟩ W.toNat = q at *
    unfold cutsE
    have n3 := nx_ok bs 24 g1
    have q2 := fun v => c_l01Next v bs 24 _ g1 hl
    generalize nx bs 24 q.src = c at *
    simp -dsimp -implicitDefEqProofs only [pick_nil, pick_cons, look_nil, look_cons, dropB_nil, dropB_cons, inD_nil, inD_cons, inE_nil, inE_cons, or_t_l, or_f_l, Nat.reduceBEq, Nat.reduceDiv, Nat.reduceAdd, beq_self_eq_true, Bool.false_eq_true, Bool.or_false, ↓reduceIte, Nat.reduceEqDiff, List.cons_append, List.nil_append]
    simp -dsimp -implicitDefEqProofs only [go_sem, ↓reduceIte, Nat.reduceEqDiff, Nat.reduceLT, Nat.reduceAdd, Nat.reduceMul, Nat.reduceLeDiff, Nat.le_refl, Int.natCast_zero, Int.toNat_natCast, Int.reduceToNat, hlt, hW]
    (refine sCallT_io [1000000000] ?_; simp -dsimp -implicitDefEqProofs only [go_sem, ↓reduceIte, Nat.reduceEqDiff, Nat.reduceLT, Nat.reduceAdd, Nat.reduceMul, Nat.reduceLeDiff, Nat.le_refl, Int.natCast_zero, Int.toNat_natCast, Int.reduceToNat]; refine sCallM_one (q2 _) ?_; simp -dsimp -implicitDefEqProofs only [go_sem, ↓reduceIte, Nat.reduceEqDiff, Nat.reduceLT, Nat.reduceAdd, Nat.reduceMul, Nat.reduceLeDiff, Nat.le_refl, Int.natCast_zero, Int.toNat_natCast, Int.reduceToNat])
    rcases b0 : (c.1 == 0) with _ | _
    · rw [if_neg (beq_eq_false_iff_ne.1 b0)]
      simp -dsimp -implicitDefEqProofs only [go_sem, ↓reduceIte, Nat.reduceEqDiff, Nat.reduceLT, Nat.reduceAdd, Nat.reduceMul, Nat.reduceLeDiff, Nat.le_refl, Int.natCast_zero, Int.toNat_natCast, Int.reduceToNat, b0]
      ((repeat' (with_reducible refine And.intro ?_ ?_)); all_goals try (first | omega | (refine ⟨?_, ?_⟩ <;> omega) | (exact rfl)))
      all_goals first | (simp; done) | (rw [List.take_of_length_le (l := List.map eI q.cuts) (by simp; omega)]; try (rw [List.take_of_length_le (by simp; omega)]; simp))
    · rw [if_pos (beq_iff_eq.1 b0)]
      simp -dsimp -implicitDefEqProofs only [go_sem, ↓reduceIte, Nat.reduceEqDiff, Nat.reduceLT, Nat.reduceAdd, Nat.reduceMul, Nat.reduceLeDiff, Nat.le_refl, Int.natCast_zero, Int.toNat_natCast, Int.reduceToNat, b0]
      ((repeat' (with_reducible refine And.intro ?_ ?_)); all_goals try (first | omega | (refine ⟨?_, ?_⟩ <;> omega) | (exact rfl)))
      all_goals first | (simp; done) | (rw [List.take_of_length_le (l := List.map eI q.cuts) (by simp; omega)]; try (rw [List.take_of_length_le (by simp; omega)]; simp))
end Go.Vc


/-
  The keys of a maker in order: ranks and places; plain facts.
-/
set_option linter.unusedVariables false
set_option linter.unusedSimpArgs false
set_option linter.unnecessarySimpa false
namespace Go.Vc
set_option maxRecDepth 100000
def allK (m : MkM) : List (List Int) := keysFrom m m.chambers.toNat []
theorem allK_cnt (m : MkM) : cnt m m.chambers.toNat [] = (allK m).length := by rw [cnt, if_pos (show okTo m [] = true from rfl)]; rfl
/-- what a key is like -/
structure KeyOk (m : MkM) (k : List Int) : Prop where
  len : (k.length : Int) = m.chambers
  ok : okTo m k = true
  kinds : ¬ (kindsTo k k.length : Int) < m.least
  el : ∀ x ∈ k, 0 ≤ x ∧ x < m.depths
theorem keysFrom_ok {m : MkM} : ∀ (n : Nat) (c k : List Int), okTo m c = true → (∀ x ∈ c, 0 ≤ x ∧ x < m.depths) → k ∈ keysFrom m n c → k.length = c.length + n ∧ okTo m k = true ∧ ¬ (kindsTo k k.length : Int) < m.least ∧ ∀ x ∈ k, 0 ≤ x ∧ x < m.depths
  | 0, c, k, h1, h2, h => by
    simp only [keysFrom] at h
    split at h
    · cases h
    · rename_i hk
      rw [List.mem_singleton] at h
      subst h
      exact ⟨rfl, h1, hk, h2⟩
  | n + 1, c, k, h1, h2, h => by
    simp only [keysFrom, List.mem_flatMap, List.mem_range] at h
    obtain ⟨d, hd, h⟩ := h
    split at h
    · rename_i hc
      obtain ⟨g1, g2⟩ := keysFrom_ok n (c ++ [(d : Int)]) k (by rw [okTo_snoc, h1, Bool.true_and]; exact hc) (fun x hx => by
        rcases List.mem_append.1 hx with h | h
        · exact h2 x h
        · simp at h; omega) h
      exact ⟨by rw [g1]; simp; omega, g2⟩
    · cases h
theorem allK_ok {m : MkM} (hm : 0 ≤ m.chambers) {k : List Int} (h : k ∈ allK m) : KeyOk m k := by
  obtain ⟨h1, h2, h3, h4⟩ := keysFrom_ok m.chambers.toNat [] k rfl (fun x hx => by cases hx) h
  exact ⟨by rw [h1]; simp; omega, h2, h3, h4⟩
theorem KeyOk.of_fault {m : MkM} {k : List Int} (h : fault m k = 0) : KeyOk m k := by
  obtain ⟨h1, h2, h3, h4⟩ := fault_out h
  exact ⟨h1, h3, h4, h2⟩
theorem KeyOk.fault {m : MkM} {k : List Int} (h : KeyOk m k) : fault m k = 0 := by
  obtain ⟨h1, h2, h3, h4⟩ := h
  unfold Go.Vc.fault
  rw [if_neg (by omega)]
  have e2 : (k.all fun x => isIn x 0 (m.depths - 1)) = true := by
    rw [List.all_eq_true]
    intro x hx
    have := h4 x hx
    simp [isIn]; omega
  unfold okTo at h2
  rw [List.all_eq_true] at h2
  have e3 : ((List.range k.length).all fun i => stepAt m k i) = true := by
    rw [List.all_eq_true]
    intro i hi
    have := h2 i hi
    simp only [Bool.and_eq_true] at this
    exact this.2
  have e4 : ((List.range k.length).all fun i => decide ((runAt k i : Int) ≤ m.same)) = true := by
    rw [List.all_eq_true]
    intro i hi
    have := h2 i hi
    simp only [Bool.and_eq_true] at this
    exact this.1
  simp [e2, e3, e4, h3]
theorem nodup_keysFrom {m : MkM} : ∀ (n : Nat) (c : List Int), (keysFrom m n c).Nodup
  | 0, c => by
    simp only [keysFrom]
    split
    · exact List.nodup_nil
    · simp
  | n + 1, c => by
    show (keysTo m n c m.depths.toNat).Nodup
    have key : ∀ D, (keysTo m n c D).Nodup := by
      intro D
      induction D with
      | zero => exact List.nodup_nil
      | succ D ih =>
        rw [keysTo_succ, List.nodup_append]
        refine ⟨ih, ?_, fun a ha b hb => ?_⟩
        · split
          · exact nodup_keysFrom n _
          · exact List.nodup_nil
        · rintro rfl
          obtain ⟨d, hd, g⟩ := keysTo_mem ha
          split at hb
          · have g2 := (keysFrom_mem m n _ a hb).1
            have e : (c ++ [(D : Int)]).length = c.length + 1 := by simp
            rw [e, g] at g2
            have := List.append_cancel_left g2
            injection this with this _
            omega
          · cases hb
    exact key _
theorem rank_index {m : MkM} {k : List Int} (h : KeyOk m k) : ∃ hr : rankTo m k k.length < (allK m).length, (allK m)[rankTo m k k.length] = k := by
  obtain ⟨a, b, g1, g2, g3⟩ := rank_at h.ok h.kinds h.el k.length 0 (by omega)
  have hl : k.length = m.chambers.toNat := by have := h.len; omega
  have e : allK m = a ++ k :: b := by
    have : keysFrom m k.length (k.take 0) = keysFrom m m.chambers.toNat [] := by rw [hl]; rfl
    rw [allK, ← this]; exact g1
  have e2 : a.length = rankTo m k k.length := by simpa [rankTo] using g3
  have hr : rankTo m k k.length < (allK m).length := by rw [e, ← e2]; simp
  refine ⟨hr, ?_⟩
  have h1 : (allK m)[rankTo m k k.length]? = some k := by
    rw [e, ← e2]; simp
  rw [List.getElem?_eq_getElem hr] at h1
  exact Option.some.inj h1
theorem index_rank {m : MkM} (hm : 0 ≤ m.chambers) {r : Nat} (h : r < (allK m).length) : KeyOk m (allK m)[r] ∧ rankTo m (allK m)[r] (allK m)[r].length = r := by
  have hk := allK_ok hm (List.getElem_mem h)
  obtain ⟨hr, e⟩ := rank_index hk
  exact ⟨hk, (List.getElem_inj (nodup_keysFrom _ _)).1 e⟩
/-- what is left of the rank behind a beginning of a key -/
theorem rank_left {m : MkM} {k : List Int} (h : KeyOk m k) {i : Nat} (hi : i < k.length) :
    rankTo m k (i + 1) = rankTo m k i + cntTo m (k.length - (i + 1)) (k.take i) (k.getD i 0).toNat ∧ rankTo m k (i + 1) ≤ rankTo m k k.length ∧
    rankTo m k k.length - rankTo m k (i + 1) < cnt m (k.length - (i + 1)) (k.take (i + 1)) := by
  obtain ⟨a, b, g1, g2, g3⟩ := rank_at h.ok h.kinds h.el (k.length - (i + 1)) (i + 1) (by omega)
  have hc : cnt m (k.length - (i + 1)) (k.take (i + 1)) = a.length + (b.length + 1) := by
    rw [cnt, if_pos (okTo_take' h.ok (by omega)), g1]; simp
  exact ⟨rfl, by omega, by omega⟩
theorem cntTo_mono (m : MkM) (n : Nat) (c : List Int) (D : Nat) : ∀ E, cntTo m n c D ≤ cntTo m n c (D + E)
  | 0 => Nat.le_refl _
  | E + 1 => by
    have := cntTo_mono m n c D E
    rw [← Nat.add_assoc, cntTo_succ]; omega
/- the visitor of KeyAt -/
end Go.Vc


/-
  Contracts: impl.eachKey's closure, with the visitor of countKeys.
-/
set_option linter.unusedVariables false
set_option linter.unusedSimpArgs false
set_option linter.unnecessarySimpa false
namespace Go.Vc
open Go.Proofs
set_option maxRecDepth 100000
set_option maxHeartbeats 4000000
theorem vis_C (c : List Int) (ver : Nat) (ys : List AV) (s : Int) (hc : c.length ≤ 6) (hy : ys.take c.length = c.map eI) (hs : 0 ≤ s ∧ s ≤ 1000000) :
    FnH Tryz.prog 99 [(1700000010, .row ver ⟨1, false⟩ true ys), (1500000005, .box 0 [eI s])] [.ref 1700000010 ver 0 c.length, .ptr 1500000005 0 0 0]
      (fun r m' => r = eB (cntF s c).2 ∧ m' = [(1700000010, .row ver ⟨1, false⟩ true ys), (1500000005, .box 0 [eI (cntF s c).1])]) := by
  refine FnH.of_vc 6 [.tmp 3] Tryz.func99 rfl rfl rfl rfl rfl (of_decide_eq_true rfl) ?_
  simp -dsimp -implicitDefEqProofs only [go_sem, ↓reduceIte, Nat.reduceEqDiff, Nat.reduceLT, Nat.reduceAdd, Nat.reduceMul, Nat.reduceLeDiff, Nat.le_refl, Int.natCast_zero, Int.toNat_natCast, Int.reduceToNat]
  refine ⟨⟨by omega, by omega⟩, _, ⟨rfl, rfl⟩, keepsM_of ?_ ?_⟩
  · simp -dsimp -implicitDefEqProofs only [go_sem, ↓reduceIte, Nat.reduceEqDiff, Nat.reduceLT, Nat.reduceAdd, Nat.reduceMul, Nat.reduceLeDiff, Nat.le_refl, Int.natCast_zero, Int.toNat_natCast, Int.reduceToNat, cntF]
  · simp -dsimp -implicitDefEqProofs only [go_sem, ↓reduceIte, Nat.reduceEqDiff, Nat.reduceLT, Nat.reduceAdd, Nat.reduceMul, Nat.reduceLeDiff, Nat.le_refl, Int.natCast_zero, Int.toNat_natCast, Int.reduceToNat]
    simp
theorem cut_C (m : MkM) (hm : isMk m = true) : ∀ (n : Nat) (c : List Int) (t : KS Int), (c.length : Int) + n = m.chambers → (∀ x ∈ c, 0 ≤ x ∧ x ≤ 7) → okZ c t → (0 ≤ t.s ∧ t.s + 8 ^ n ≤ 1000000) →
    FnH Tryz.prog 125 [(1700000008, .box 0 [.ref 1700000010 t.ver 0 c.length]), (1700000010, .row t.ver ⟨1, false⟩ true (t.zs.map eI)), (1700000004, .box 0 [eI m.chambers, eI m.depths, eI m.step, eI m.same, eI m.least]), (1700000007, .box 0 [.clo 99 [.ptr 1500000005 0 0 0]]), (1700000005, .box 0 [.val (.slice none 0 0)]), (1700000006, .box 0 [.val .nilFunc]), (1700000009, .box 0 [.clo 125 [.ptr 1700000008 0 0 0, .ptr 1700000004 0 0 0, .ptr 1700000007 0 0 0, .ptr 1700000005 0 0 0, .ptr 1700000006 0 0 0, .ptr 1700000009 0 0 0]]), (1500000005, .box 0 [eI t.s])] [eB false, .ptr 1700000008 0 0 0, .ptr 1700000004 0 0 0, .ptr 1700000007 0 0 0, .ptr 1700000005 0 0 0, .ptr 1700000006 0 0 0, .ptr 1700000009 0 0 0]
      (fun r m' => r = eB (cutF m cntF n c t).2 ∧ m' = [(1700000008, .box 0 [.ref 1700000010 (cutF m cntF n c t).1.ver 0 c.length]), (1700000010, .row (cutF m cntF n c t).1.ver ⟨1, false⟩ true ((cutF m cntF n c t).1.zs.map eI)), (1700000004, .box 0 [eI m.chambers, eI m.depths, eI m.step, eI m.same, eI m.least]), (1700000007, .box 0 [.clo 99 [.ptr 1500000005 0 0 0]]), (1700000005, .box 0 [.val (.slice none 0 0)]), (1700000006, .box 0 [.val .nilFunc]), (1700000009, .box 0 [.clo 125 [.ptr 1700000008 0 0 0, .ptr 1700000004 0 0 0, .ptr 1700000007 0 0 0, .ptr 1700000005 0 0 0, .ptr 1700000006 0 0 0, .ptr 1700000009 0 0 0]]), (1500000005, .box 0 [eI (cutF m cntF n c t).1.s])]) := by
  intro n
  have ⟨⟨hch1, hch2⟩, hd1, hd2⟩ := isMk_num hm
  induction n with
  | zero =>
    intro c t hl hc hz hs
    have hk : ((c.length : Int) == m.chambers) = true := beq_iff_eq.2 (by omega)
    have ht : List.take c.length (List.map eI t.zs) = List.map eI c := by rw [← List.map_take, hz.1]
    have hzl : c.length ≤ (List.map eI t.zs).length := by simpa using hz.2
    refine FnH.of_vc 91 [.tmp 8] Tryz.func125 rfl rfl rfl rfl rfl (of_decide_eq_true rfl) ?_
    simp -dsimp -implicitDefEqProofs only [go_sem, ↓reduceIte, Nat.reduceEqDiff, Nat.reduceLT, Nat.reduceAdd, Nat.reduceMul, Nat.reduceLeDiff, Nat.le_refl, Int.natCast_zero, Int.toNat_natCast, Int.reduceToNat, hk]
    refine Later.solo 8 mixed rfl ?_
    simp -dsimp -implicitDefEqProofs only [List.take_succ_cons, List.take_zero, List.drop_succ_cons, List.drop_zero]
    have hdif := c_different c (by omega)
    rcases hq : decide ((kindsTo c c.length : Int) < m.least) with _ | _
    · have hq' := of_decide_eq_false hq
      have hcut : cutF m cntF 0 c t = (⟨t.ver, t.zs, (cntF t.s c).1⟩, (cntF t.s c).2) := by rw [cutF, if_neg hq']
      rw [hcut]
      simp -dsimp -implicitDefEqProofs only [go_sem, ↓reduceIte, Nat.reduceEqDiff, Nat.reduceLT, Nat.reduceAdd, Nat.reduceMul, Nat.reduceLeDiff, Nat.le_refl, Int.natCast_zero, Int.toNat_natCast, Int.reduceToNat, hk, ht, List.drop_zero]
      refine ⟨hz.2, ?_⟩
      (refine sCallX_one (hdif) ?_; try simp -dsimp -implicitDefEqProofs only [go_sem, ↓reduceIte, Nat.reduceEqDiff, Nat.reduceLT, Nat.reduceAdd, Nat.reduceMul, Nat.reduceLeDiff, Nat.le_refl, Int.natCast_zero, Int.toNat_natCast, Int.reduceToNat, *])
      refine ⟨by exact rfl, hz.2, ?_⟩
      refine sCallT_H (vis_C c t.ver (t.zs.map eI) t.s (by omega) ht (by omega)) ⟨⟨?_, ?_⟩, ?_, ?_⟩ ?_
      · simp -dsimp -implicitDefEqProofs only [go_sem, ↓reduceIte, Nat.reduceEqDiff, Nat.reduceLT, Nat.reduceAdd, Nat.reduceMul, Nat.reduceLeDiff, Nat.le_refl, Int.natCast_zero, Int.toNat_natCast, Int.reduceToNat]
      · simp -dsimp -implicitDefEqProofs only [go_sem, ↓reduceIte, Nat.reduceEqDiff, Nat.reduceLT, Nat.reduceAdd, Nat.reduceMul, Nat.reduceLeDiff, Nat.le_refl, Int.natCast_zero, Int.toNat_natCast, Int.reduceToNat]
        simp
      · simp -dsimp -implicitDefEqProofs only [go_sem, ↓reduceIte, Nat.reduceEqDiff, Nat.reduceLT, Nat.reduceAdd, Nat.reduceMul, Nat.reduceLeDiff, Nat.le_refl, Int.natCast_zero, Int.toNat_natCast, Int.reduceToNat]
      · simp -dsimp -implicitDefEqProofs only [go_sem, ↓reduceIte, Nat.reduceEqDiff, Nat.reduceLT, Nat.reduceAdd, Nat.reduceMul, Nat.reduceLeDiff, Nat.le_refl, Int.natCast_zero, Int.toNat_natCast, Int.reduceToNat]
        simp
      · rintro r m' ⟨hr, hm'⟩
        rw [hr, hm']
        simp -dsimp -implicitDefEqProofs only [go_sem, ↓reduceIte, Nat.reduceEqDiff, Nat.reduceLT, Nat.reduceAdd, Nat.reduceMul, Nat.reduceLeDiff, Nat.le_refl, Int.natCast_zero, Int.toNat_natCast, Int.reduceToNat]
        refine ⟨_, rfl, keepsM_of ?_ ?_⟩
        · simp -dsimp -implicitDefEqProofs only [go_sem, ↓reduceIte, Nat.reduceEqDiff, Nat.reduceLT, Nat.reduceAdd, Nat.reduceMul, Nat.reduceLeDiff, Nat.le_refl, Int.natCast_zero, Int.toNat_natCast, Int.reduceToNat]
        · simp -dsimp -implicitDefEqProofs only [go_sem, ↓reduceIte, Nat.reduceEqDiff, Nat.reduceLT, Nat.reduceAdd, Nat.reduceMul, Nat.reduceLeDiff, Nat.le_refl, Int.natCast_zero, Int.toNat_natCast, Int.reduceToNat]
          simp [labs, labsL, inLs]
    · have hq' := of_decide_eq_true hq
      have hcut : cutF m cntF 0 c t = (t, true) := by rw [cutF, if_pos hq']
      rw [hcut]
      simp -dsimp -implicitDefEqProofs only [go_sem, ↓reduceIte, Nat.reduceEqDiff, Nat.reduceLT, Nat.reduceAdd, Nat.reduceMul, Nat.reduceLeDiff, Nat.le_refl, Int.natCast_zero, Int.toNat_natCast, Int.reduceToNat, hk, ht, List.drop_zero]
      refine ⟨hz.2, ?_⟩
      (refine sCallX_one (hdif) ?_; try simp -dsimp -implicitDefEqProofs only [go_sem, ↓reduceIte, Nat.reduceEqDiff, Nat.reduceLT, Nat.reduceAdd, Nat.reduceMul, Nat.reduceLeDiff, Nat.le_refl, Int.natCast_zero, Int.toNat_natCast, Int.reduceToNat, *])
      refine ⟨by exact rfl, _, rfl, keepsM_of ?_ ?_⟩
      · simp -dsimp -implicitDefEqProofs only [go_sem, ↓reduceIte, Nat.reduceEqDiff, Nat.reduceLT, Nat.reduceAdd, Nat.reduceMul, Nat.reduceLeDiff, Nat.le_refl, Int.natCast_zero, Int.toNat_natCast, Int.reduceToNat]
      · simp -dsimp -implicitDefEqProofs only [go_sem, ↓reduceIte, Nat.reduceEqDiff, Nat.reduceLT, Nat.reduceAdd, Nat.reduceMul, Nat.reduceLeDiff, Nat.le_refl, Int.natCast_zero, Int.toNat_natCast, Int.reduceToNat]
        simp [labs, labsL, inLs]
  | succ n ih =>
    intro c t hl hc hz hs
    have hk : ((c.length : Int) == m.chambers) = false := beq_eq_false_iff_ne.2 (by omega)
    refine FnH.of_vc 91 [.tmp 8] Tryz.func125 rfl rfl rfl rfl rfl (of_decide_eq_true rfl) ?_
    simp -dsimp -implicitDefEqProofs only [go_sem, ↓reduceIte, Nat.reduceEqDiff, Nat.reduceLT, Nat.reduceAdd, Nat.reduceMul, Nat.reduceLeDiff, Nat.le_refl, Int.natCast_zero, Int.toNat_natCast, Int.reduceToNat, hk]
    refine Later.up [0, 1, 2, 5, 6, 9, 10] [47, 61, 69, 70, 72, 84] [1700000008, 1700000010, 1500000005] m.depths.toNat (fun i => (stN (cutB m cntF n c) t i).2 = true) (fun i => [(11, eI i)]) (fun i => [(1700000008, .box 0 [.ref 1700000010 (stN (cutB m cntF n c) t i).1.ver 0 c.length]), (1700000010, .row (stN (cutB m cntF n c) t i).1.ver ⟨1, false⟩ true ((stN (cutB m cntF n c) t i).1.zs.map eI)), (1500000005, .box 0 [eI (stN (cutB m cntF n c) t i).1.s])]) rfl ?_ rfl (fun i hi hI => ?_) (fun hI => ?_)
    · simp -dsimp -implicitDefEqProofs only [go_sem, ↓reduceIte, Nat.reduceEqDiff, Nat.reduceLT, Nat.reduceAdd, Nat.reduceMul, Nat.reduceLeDiff, Nat.le_refl, Int.natCast_zero, Int.toNat_natCast, Int.reduceToNat]
      simp [stN]
    · have hu : okZ c (stN (cutB m cntF n c) t i).1 := stN_okZ hz i
      have hb := stN_inc hm (cutF_inc hm (f := cntF) (fun s k => ⟨(by show s ≤ s + 1; omega), Int.le_refl _⟩) n) t i (c := c)
      have hp : (0 : Int) < 8 ^ n := Int.pow_pos (by decide)
      have h8 : (i : Int) * 8 ^ n ≤ 7 * 8 ^ n := Int.mul_le_mul_of_nonneg_right (by omega) (by omega)
      have h9 : (8 : Int) ^ (n + 1) = 8 * 8 ^ n := by rw [Int.pow_succ, Int.mul_comm]
      have hlt : decide ((i : Int) < m.depths) = true := decide_eq_true (by omega)
      have hS := stN_succ hI
      have hfin : (cutB m cntF n c i (stN (cutB m cntF n c) t i).1).2 = false → cutF m cntF (n + 1) c t = cutB m cntF n c i (stN (cutB m cntF n c) t i).1 := fun h => by
        rw [← hS] at h ⊢
        rw [cutF_succ, stN_stop h m.depths.toNat (by omega)]
      rw [hS]
      clear hS hI
      generalize (stN (cutB m cntF n c) t i).1 = u at *
      obtain ⟨hu1, hu2⟩ := hu
      have htk : List.take c.length (List.map eI u.zs) = List.map eI c := by rw [← List.map_take, hu1]
      have hbounds : 0 ≤ u.s ∧ u.s + 8 ^ n ≤ 1000000 := by omega
      have hcl : c.length ≤ 6 := by omega
      have hih := ih (c ++ [(i : Int)]) ⟨u.ver + 1, c ++ [(i : Int)], u.s⟩ (by simp; omega) (fun x hx => by
        rcases List.mem_append.1 hx with h | h
        · exact hc x h
        · simp at h; omega) ⟨List.take_length, Nat.le_refl _⟩ hbounds
      simp only [List.length_append, List.length_cons, List.length_nil, Nat.zero_add] at hih
      have hrun := c_sameRun (c ++ [(i : Int)]) (by simp) (by simp; omega)
      simp only [List.length_append, List.length_cons, List.length_nil, Nat.zero_add, Nat.add_sub_cancel] at hrun
      have hmap : List.map eI c ++ [eI (i : Int)] = List.map eI (c ++ [(i : Int)]) := by simp
      have hstep : stepOk m c i = (c.isEmpty || !decide (absN ((i : Int) - c.getD (c.length - 1) 0) > m.step)) := by
        unfold stepOk
        congr 1
        by_cases h : absN ((i : Int) - c.getD (c.length - 1) 0) ≤ m.step
        · rw [decide_eq_true h, decide_eq_false (by omega)]; rfl
        · rw [decide_eq_false h, decide_eq_true (by omega)]; rfl
      have hrunok : runOk m c i = !decide ((runAt (c ++ [(i : Int)]) c.length : Int) > m.same) := by
        unfold runOk
        by_cases h : (runAt (c ++ [(i : Int)]) c.length : Int) ≤ m.same
        · rw [decide_eq_true h, decide_eq_false (by omega)]; rfl
        · rw [decide_eq_false h, decide_eq_true (by omega)]; rfl
      simp -dsimp -implicitDefEqProofs only [pick_nil, pick_cons, look_nil, look_cons, dropB_nil, dropB_cons, inD_nil, inD_cons, inE_nil, inE_cons, or_t_l, or_f_l, Nat.reduceBEq, Nat.reduceDiv, Nat.reduceAdd, beq_self_eq_true, Bool.false_eq_true, Bool.or_false, ↓reduceIte, Nat.reduceEqDiff, List.cons_append, List.nil_append]
      simp -dsimp -implicitDefEqProofs only [go_sem, ↓reduceIte, Nat.reduceEqDiff, Nat.reduceLT, Nat.reduceAdd, Nat.reduceMul, Nat.reduceLeDiff, Nat.le_refl, Int.natCast_zero, Int.toNat_natCast, Int.reduceToNat, hlt]
      refine Later.draw mixed rfl ?_
      have hfn : fnRes Tryz.prog 125 .neq = some false := rfl
      rcases hk0 : decide ((c.length : Int) > 0) with _ | _
      · have hce : c = [] := by
          have := of_decide_eq_false hk0
          exact List.eq_nil_of_length_eq_zero (by omega)
        have hsT : stepOk m c i = true := by rw [hce]; rfl
        clear hce
        simp -dsimp -implicitDefEqProofs only [go_sem, ↓reduceIte, Nat.reduceEqDiff, Nat.reduceLT, Nat.reduceAdd, Nat.reduceMul, Nat.reduceLeDiff, Nat.le_refl, Int.natCast_zero, Int.toNat_natCast, Int.reduceToNat, hfn, hk0]
        refine ⟨by exact rfl, hu2, by omega, ?_⟩
        refine Later.solo 13 mixed rfl ?_
        simp -dsimp -implicitDefEqProofs only [List.take_succ_cons, List.take_zero, List.drop_succ_cons, List.drop_zero]
        have htl : List.take (c.length + 1) (List.map eI (c ++ [(i : Int)])) = List.map eI (c ++ [(i : Int)]) := List.take_of_length_le (by simp)
        rcases hq2 : decide ((runAt (c ++ [(i : Int)]) c.length : Int) > m.same) with _ | _
        · have hcB : cutB m cntF n c i u = cutF m cntF n (c ++ [(i : Int)]) ⟨u.ver + 1, c ++ [(i : Int)], u.s⟩ := by rw [cutB, if_pos hsT, if_pos (by rw [hrunok, hq2]; rfl), hu1]
          rw [hcB] at hfin ⊢
          clear hcB
          generalize cutF m cntF n (c ++ [(i : Int)]) ⟨u.ver + 1, c ++ [(i : Int)], u.s⟩ = w at *
          obtain ⟨w, b⟩ := w
          simp -dsimp -implicitDefEqProofs only [go_sem, ↓reduceIte, Nat.reduceEqDiff, Nat.reduceLT, Nat.reduceAdd, Nat.reduceMul, Nat.reduceLeDiff, Nat.le_refl, Int.natCast_zero, Int.toNat_natCast, Int.reduceToNat, htk, hmap, htl]
          (refine sCallX_one (hrun) ?_; try simp -dsimp -implicitDefEqProofs only [go_sem, ↓reduceIte, Nat.reduceEqDiff, Nat.reduceLT, Nat.reduceAdd, Nat.reduceMul, Nat.reduceLeDiff, Nat.le_refl, Int.natCast_zero, Int.toNat_natCast, Int.reduceToNat, *])
          refine ⟨by exact rfl, ?_⟩
          refine sCallT_H hih ⟨⟨?_, ?_⟩, ?_, ?_⟩ ?_
          · simp -dsimp -implicitDefEqProofs only [go_sem, ↓reduceIte, Nat.reduceEqDiff, Nat.reduceLT, Nat.reduceAdd, Nat.reduceMul, Nat.reduceLeDiff, Nat.le_refl, Int.natCast_zero, Int.toNat_natCast, Int.reduceToNat]
          · simp -dsimp -implicitDefEqProofs only [go_sem, ↓reduceIte, Nat.reduceEqDiff, Nat.reduceLT, Nat.reduceAdd, Nat.reduceMul, Nat.reduceLeDiff, Nat.le_refl, Int.natCast_zero, Int.toNat_natCast, Int.reduceToNat]
            simp [labs, labsL, inLs]
          · simp -dsimp -implicitDefEqProofs only [go_sem, ↓reduceIte, Nat.reduceEqDiff, Nat.reduceLT, Nat.reduceAdd, Nat.reduceMul, Nat.reduceLeDiff, Nat.le_refl, Int.natCast_zero, Int.toNat_natCast, Int.reduceToNat]
          · simp -dsimp -implicitDefEqProofs only [go_sem, ↓reduceIte, Nat.reduceEqDiff, Nat.reduceLT, Nat.reduceAdd, Nat.reduceMul, Nat.reduceLeDiff, Nat.le_refl, Int.natCast_zero, Int.toNat_natCast, Int.reduceToNat]
            simp [labs, labsL, inLs]
          · rintro r m' ⟨hr, hm'⟩
            rw [hr, hm']
            clear hr hm'
            cases b with
            | false =>
              rw [hfin rfl]
              simp -dsimp -implicitDefEqProofs only [go_sem, ↓reduceIte, Nat.reduceEqDiff, Nat.reduceLT, Nat.reduceAdd, Nat.reduceMul, Nat.reduceLeDiff, Nat.le_refl, Int.natCast_zero, Int.toNat_natCast, Int.reduceToNat]
              refine ⟨by omega, _, rfl, keepsM_of ?_ ?_⟩
              · simp -dsimp -implicitDefEqProofs only [go_sem, ↓reduceIte, Nat.reduceEqDiff, Nat.reduceLT, Nat.reduceAdd, Nat.reduceMul, Nat.reduceLeDiff, Nat.le_refl, Int.natCast_zero, Int.toNat_natCast, Int.reduceToNat]
              · simp -dsimp -implicitDefEqProofs only [go_sem, ↓reduceIte, Nat.reduceEqDiff, Nat.reduceLT, Nat.reduceAdd, Nat.reduceMul, Nat.reduceLeDiff, Nat.le_refl, Int.natCast_zero, Int.toNat_natCast, Int.reduceToNat]
                simp [labs, labsL, inLs]
            | true =>
              simp -dsimp -implicitDefEqProofs only [go_sem, ↓reduceIte, Nat.reduceEqDiff, Nat.reduceLT, Nat.reduceAdd, Nat.reduceMul, Nat.reduceLeDiff, Nat.le_refl, Int.natCast_zero, Int.toNat_natCast, Int.reduceToNat]
              exact ⟨by omega, ⟨by omega, by omega⟩, by simp⟩
        · have hcB : cutB m cntF n c i u = (⟨u.ver + 1, c ++ [(i : Int)], u.s⟩, true) := by rw [cutB, if_pos hsT, if_neg (by rw [hrunok, hq2]; exact fun h => by cases h), hu1]
          rw [hcB]
          clear hcB hfin
          simp -dsimp -implicitDefEqProofs only [go_sem, ↓reduceIte, Nat.reduceEqDiff, Nat.reduceLT, Nat.reduceAdd, Nat.reduceMul, Nat.reduceLeDiff, Nat.le_refl, Int.natCast_zero, Int.toNat_natCast, Int.reduceToNat, htk, hmap, htl]
          (refine sCallX_one (hrun) ?_; try simp -dsimp -implicitDefEqProofs only [go_sem, ↓reduceIte, Nat.reduceEqDiff, Nat.reduceLT, Nat.reduceAdd, Nat.reduceMul, Nat.reduceLeDiff, Nat.le_refl, Int.natCast_zero, Int.toNat_natCast, Int.reduceToNat, *])
          exact ⟨by exact rfl, by omega, ⟨by omega, by omega⟩, by simp⟩
      · have hkp := of_decide_eq_true hk0
        have hla : c.getD (c.length - 1) 0 = c[c.length - 1] := by simp [List.getD_eq_getElem?_getD, show c.length - 1 < c.length by omega]
        have hlast : (List.map eI u.zs)[c.length - 1]? = some (eI (c.getD (c.length - 1) 0)) := by
          have h1 : (List.take c.length (List.map eI u.zs))[c.length - 1]? = (List.map eI u.zs)[c.length - 1]? := by rw [List.getElem?_take]; simp; omega
          rw [← h1, htk, hla]; simp [show c.length - 1 < c.length by omega]
        have hlb := hc _ (List.getElem_mem (show c.length - 1 < c.length by omega))
        rw [← hla] at hlb
        generalize c.getD (c.length - 1) 0 = z at *
        clear hla
        have e1 : ((c.length : Int) - 1).toNat = c.length - 1 := by omega
        have habs := c_absolute ((i : Int) - z) (by omega)
        rcases hq : decide (absN ((i : Int) - z) > m.step) with _ | _
        · have hsT : stepOk m c i = true := by rw [hstep, hq]; simp
          simp -dsimp -implicitDefEqProofs only [go_sem, ↓reduceIte, Nat.reduceEqDiff, Nat.reduceLT, Nat.reduceAdd, Nat.reduceMul, Nat.reduceLeDiff, Nat.le_refl, Int.natCast_zero, Int.toNat_natCast, Int.reduceToNat, hfn, hk0, e1, hlast]
          refine ⟨⟨by omega, by omega⟩, ⟨by omega, by omega⟩, ⟨by omega, by omega⟩, ?_⟩
          (refine sCallX_one (habs) ?_; try simp -dsimp -implicitDefEqProofs only [go_sem, ↓reduceIte, Nat.reduceEqDiff, Nat.reduceLT, Nat.reduceAdd, Nat.reduceMul, Nat.reduceLeDiff, Nat.le_refl, Int.natCast_zero, Int.toNat_natCast, Int.reduceToNat, *])
          refine ⟨by exact rfl, by omega, ?_⟩
          refine Later.solo 13 mixed rfl ?_
          simp -dsimp -implicitDefEqProofs only [List.take_succ_cons, List.take_zero, List.drop_succ_cons, List.drop_zero]
          have htl : List.take (c.length + 1) (List.map eI (c ++ [(i : Int)])) = List.map eI (c ++ [(i : Int)]) := List.take_of_length_le (by simp)
          rcases hq2 : decide ((runAt (c ++ [(i : Int)]) c.length : Int) > m.same) with _ | _
          · have hcB : cutB m cntF n c i u = cutF m cntF n (c ++ [(i : Int)]) ⟨u.ver + 1, c ++ [(i : Int)], u.s⟩ := by rw [cutB, if_pos hsT, if_pos (by rw [hrunok, hq2]; rfl), hu1]
            rw [hcB] at hfin ⊢
            clear hcB
            generalize cutF m cntF n (c ++ [(i : Int)]) ⟨u.ver + 1, c ++ [(i : Int)], u.s⟩ = w at *
            obtain ⟨w, b⟩ := w
            simp -dsimp -implicitDefEqProofs only [go_sem, ↓reduceIte, Nat.reduceEqDiff, Nat.reduceLT, Nat.reduceAdd, Nat.reduceMul, Nat.reduceLeDiff, Nat.le_refl, Int.natCast_zero, Int.toNat_natCast, Int.reduceToNat, htk, hmap, htl]
            (refine sCallX_one (hrun) ?_; try simp -dsimp -implicitDefEqProofs only [go_sem, ↓reduceIte, Nat.reduceEqDiff, Nat.reduceLT, Nat.reduceAdd, Nat.reduceMul, Nat.reduceLeDiff, Nat.le_refl, Int.natCast_zero, Int.toNat_natCast, Int.reduceToNat, *])
            refine ⟨by exact rfl, ?_⟩
            refine sCallT_H hih ⟨⟨?_, ?_⟩, ?_, ?_⟩ ?_
            · simp -dsimp -implicitDefEqProofs only [go_sem, ↓reduceIte, Nat.reduceEqDiff, Nat.reduceLT, Nat.reduceAdd, Nat.reduceMul, Nat.reduceLeDiff, Nat.le_refl, Int.natCast_zero, Int.toNat_natCast, Int.reduceToNat]
            · simp -dsimp -implicitDefEqProofs only [go_sem, ↓reduceIte, Nat.reduceEqDiff, Nat.reduceLT, Nat.reduceAdd, Nat.reduceMul, Nat.reduceLeDiff, Nat.le_refl, Int.natCast_zero, Int.toNat_natCast, Int.reduceToNat]
              simp [labs, labsL, inLs]
            · simp -dsimp -implicitDefEqProofs only [go_sem, ↓reduceIte, Nat.reduceEqDiff, Nat.reduceLT, Nat.reduceAdd, Nat.reduceMul, Nat.reduceLeDiff, Nat.le_refl, Int.natCast_zero, Int.toNat_natCast, Int.reduceToNat]
            · simp -dsimp -implicitDefEqProofs only [go_sem, ↓reduceIte, Nat.reduceEqDiff, Nat.reduceLT, Nat.reduceAdd, Nat.reduceMul, Nat.reduceLeDiff, Nat.le_refl, Int.natCast_zero, Int.toNat_natCast, Int.reduceToNat]
              simp [labs, labsL, inLs]
            · rintro r m' ⟨hr, hm'⟩
              rw [hr, hm']
              clear hr hm'
              cases b with
              | false =>
                rw [hfin rfl]
                simp -dsimp -implicitDefEqProofs only [go_sem, ↓reduceIte, Nat.reduceEqDiff, Nat.reduceLT, Nat.reduceAdd, Nat.reduceMul, Nat.reduceLeDiff, Nat.le_refl, Int.natCast_zero, Int.toNat_natCast, Int.reduceToNat]
                refine ⟨by omega, _, rfl, keepsM_of ?_ ?_⟩
                · simp -dsimp -implicitDefEqProofs only [go_sem, ↓reduceIte, Nat.reduceEqDiff, Nat.reduceLT, Nat.reduceAdd, Nat.reduceMul, Nat.reduceLeDiff, Nat.le_refl, Int.natCast_zero, Int.toNat_natCast, Int.reduceToNat]
                · simp -dsimp -implicitDefEqProofs only [go_sem, ↓reduceIte, Nat.reduceEqDiff, Nat.reduceLT, Nat.reduceAdd, Nat.reduceMul, Nat.reduceLeDiff, Nat.le_refl, Int.natCast_zero, Int.toNat_natCast, Int.reduceToNat]
                  simp [labs, labsL, inLs]
              | true =>
                simp -dsimp -implicitDefEqProofs only [go_sem, ↓reduceIte, Nat.reduceEqDiff, Nat.reduceLT, Nat.reduceAdd, Nat.reduceMul, Nat.reduceLeDiff, Nat.le_refl, Int.natCast_zero, Int.toNat_natCast, Int.reduceToNat]
                exact ⟨by omega, ⟨by omega, by omega⟩, by simp⟩
          · have hcB : cutB m cntF n c i u = (⟨u.ver + 1, c ++ [(i : Int)], u.s⟩, true) := by rw [cutB, if_pos hsT, if_neg (by rw [hrunok, hq2]; exact fun h => by cases h), hu1]
            rw [hcB]
            clear hcB hfin
            simp -dsimp -implicitDefEqProofs only [go_sem, ↓reduceIte, Nat.reduceEqDiff, Nat.reduceLT, Nat.reduceAdd, Nat.reduceMul, Nat.reduceLeDiff, Nat.le_refl, Int.natCast_zero, Int.toNat_natCast, Int.reduceToNat, htk, hmap, htl]
            (refine sCallX_one (hrun) ?_; try simp -dsimp -implicitDefEqProofs only [go_sem, ↓reduceIte, Nat.reduceEqDiff, Nat.reduceLT, Nat.reduceAdd, Nat.reduceMul, Nat.reduceLeDiff, Nat.le_refl, Int.natCast_zero, Int.toNat_natCast, Int.reduceToNat, *])
            exact ⟨by exact rfl, by omega, ⟨by omega, by omega⟩, by simp⟩
        · have hsF : stepOk m c i = false := by
            rw [hstep, hq]
            cases c with
            | nil => simp at hkp
            | cons => rfl
          have hcB : cutB m cntF n c i u = (u, true) := by rw [cutB, if_neg (by rw [hsF]; exact fun h => by cases h)]
          rw [hcB]
          clear hcB hfin
          simp -dsimp -implicitDefEqProofs only [go_sem, ↓reduceIte, Nat.reduceEqDiff, Nat.reduceLT, Nat.reduceAdd, Nat.reduceMul, Nat.reduceLeDiff, Nat.le_refl, Int.natCast_zero, Int.toNat_natCast, Int.reduceToNat, hfn, hk0, e1, hlast]
          refine ⟨⟨by omega, by omega⟩, ⟨by omega, by omega⟩, ⟨by omega, by omega⟩, ?_⟩
          (refine sCallX_one (habs) ?_; try simp -dsimp -implicitDefEqProofs only [go_sem, ↓reduceIte, Nat.reduceEqDiff, Nat.reduceLT, Nat.reduceAdd, Nat.reduceMul, Nat.reduceLeDiff, Nat.le_refl, Int.natCast_zero, Int.toNat_natCast, Int.reduceToNat, *])
          exact ⟨by exact rfl, ⟨by omega, by omega⟩, by simp⟩
    · simp -dsimp -implicitDefEqProofs only [pick_nil, pick_cons, look_nil, look_cons, dropB_nil, dropB_cons, inD_nil, inD_cons, inE_nil, inE_cons, or_t_l, or_f_l, Nat.reduceBEq, Nat.reduceDiv, Nat.reduceAdd, beq_self_eq_true, Bool.false_eq_true, Bool.or_false, ↓reduceIte, Nat.reduceEqDiff, List.cons_append, List.nil_append]
      have hlt : decide (((m.depths.toNat : Nat) : Int) < m.depths) = false := decide_eq_false (by omega)
      simp -dsimp -implicitDefEqProofs only [go_sem, ↓reduceIte, Nat.reduceEqDiff, Nat.reduceLT, Nat.reduceAdd, Nat.reduceMul, Nat.reduceLeDiff, Nat.le_refl, Int.natCast_zero, Int.toNat_natCast, Int.reduceToNat, hlt]
      rw [cutF_succ]
      refine ⟨_, ⟨by rw [hI], rfl⟩, keepsM_of ?_ ?_⟩
      · simp -dsimp -implicitDefEqProofs only [go_sem, ↓reduceIte, Nat.reduceEqDiff, Nat.reduceLT, Nat.reduceAdd, Nat.reduceMul, Nat.reduceLeDiff, Nat.le_refl, Int.natCast_zero, Int.toNat_natCast, Int.reduceToNat]
      · simp -dsimp -implicitDefEqProofs only [go_sem, ↓reduceIte, Nat.reduceEqDiff, Nat.reduceLT, Nat.reduceAdd, Nat.reduceMul, Nat.reduceLeDiff, Nat.le_refl, Int.natCast_zero, Int.toNat_natCast, Int.reduceToNat]
        simp [labs, labsL, inLs]
end Go.Vc


/-
  Contracts: impl.eachKey's closure, with the visitor of RankOf.
-/
set_option linter.unusedVariables false
set_option linter.unusedSimpArgs false
set_option linter.unnecessarySimpa false
namespace Go.Vc
open Go.Proofs
set_option maxRecDepth 100000
set_option maxHeartbeats 4000000
theorem vis_R (key : List Int) (hkey : key.length ≤ 1048576) (c : List Int) (ver : Nat) (ys : List AV) (s : Int) (hc : c.length ≤ 6) (hy : ys.take c.length = c.map eI) (hs : 0 ≤ s ∧ s ≤ 1000000) :
    FnH Tryz.prog 97 [(1700000010, .row ver ⟨1, false⟩ true ys), (1500000003, .box 0 [eIs key]), (1500000007, .box 0 [eI s])] [.ref 1700000010 ver 0 c.length, .ptr 1500000003 0 0 0, .ptr 1500000007 0 0 0]
      (fun r m' => r = eB ((rankF key) s c).2 ∧ m' = [(1700000010, .row ver ⟨1, false⟩ true ys), (1500000003, .box 0 [eIs key]), (1500000007, .box 0 [eI ((rankF key) s c).1])]) := by
  refine FnH.of_vc 10 [.tmp 4] Tryz.func97 rfl rfl rfl rfl rfl (of_decide_eq_true rfl) ?_
  have heq := c_EqualI c key (by omega)
  have hyl : c.length ≤ ys.length := by
    have := congrArg List.length hy
    simp at this; omega
  by_cases hk : c = key
  · rw [decide_eq_true hk] at heq
    have hr : rankF key s c = (s, false) := if_pos hk
    rw [hr]
    clear hr hk
    simp -dsimp -implicitDefEqProofs only [go_sem, ↓reduceIte, Nat.reduceEqDiff, Nat.reduceLT, Nat.reduceAdd, Nat.reduceMul, Nat.reduceLeDiff, Nat.le_refl, Int.natCast_zero, Int.toNat_natCast, Int.reduceToNat, hy]
    repeat' first
      | (with_reducible refine And.intro ?_ ?_)
      | (refine sCallT_one (heq) ?_; try simp -dsimp -implicitDefEqProofs only [go_sem, ↓reduceIte, Nat.reduceEqDiff, Nat.reduceLT, Nat.reduceAdd, Nat.reduceMul, Nat.reduceLeDiff, Nat.le_refl, Int.natCast_zero, Int.toNat_natCast, Int.reduceToNat, *])
    all_goals first
      | exact hyl
      | (refine ⟨_, rfl, keepsM_of ?_ ?_⟩
         · simp -dsimp -implicitDefEqProofs only [go_sem, ↓reduceIte, Nat.reduceEqDiff, Nat.reduceLT, Nat.reduceAdd, Nat.reduceMul, Nat.reduceLeDiff, Nat.le_refl, Int.natCast_zero, Int.toNat_natCast, Int.reduceToNat]
         · simp -dsimp -implicitDefEqProofs only [go_sem, ↓reduceIte, Nat.reduceEqDiff, Nat.reduceLT, Nat.reduceAdd, Nat.reduceMul, Nat.reduceLeDiff, Nat.le_refl, Int.natCast_zero, Int.toNat_natCast, Int.reduceToNat]
           simp [labs, labsL, inLs])
      | trace_state
  · rw [decide_eq_false hk] at heq
    have hr : rankF key s c = (s + 1, true) := if_neg hk
    rw [hr]
    clear hr hk
    simp -dsimp -implicitDefEqProofs only [go_sem, ↓reduceIte, Nat.reduceEqDiff, Nat.reduceLT, Nat.reduceAdd, Nat.reduceMul, Nat.reduceLeDiff, Nat.le_refl, Int.natCast_zero, Int.toNat_natCast, Int.reduceToNat, hy]
    repeat' first
      | (with_reducible refine And.intro ?_ ?_)
      | (refine sCallT_one (heq) ?_; try simp -dsimp -implicitDefEqProofs only [go_sem, ↓reduceIte, Nat.reduceEqDiff, Nat.reduceLT, Nat.reduceAdd, Nat.reduceMul, Nat.reduceLeDiff, Nat.le_refl, Int.natCast_zero, Int.toNat_natCast, Int.reduceToNat, *])
    all_goals first
      | exact hyl
      | exact ⟨by omega, by omega⟩
      | (refine ⟨_, rfl, keepsM_of ?_ ?_⟩
         · simp -dsimp -implicitDefEqProofs only [go_sem, ↓reduceIte, Nat.reduceEqDiff, Nat.reduceLT, Nat.reduceAdd, Nat.reduceMul, Nat.reduceLeDiff, Nat.le_refl, Int.natCast_zero, Int.toNat_natCast, Int.reduceToNat]
         · simp -dsimp -implicitDefEqProofs only [go_sem, ↓reduceIte, Nat.reduceEqDiff, Nat.reduceLT, Nat.reduceAdd, Nat.reduceMul, Nat.reduceLeDiff, Nat.le_refl, Int.natCast_zero, Int.toNat_natCast, Int.reduceToNat]
           simp [labs, labsL, inLs])
      | trace_state
theorem cut_R (key : List Int) (hkey : key.length ≤ 1048576) (m : MkM) (hm : isMk m = true) : ∀ (n : Nat) (c : List Int) (t : KS Int), (c.length : Int) + n = m.chambers → (∀ x ∈ c, 0 ≤ x ∧ x ≤ 7) → okZ c t → (0 ≤ t.s ∧ t.s + 8 ^ n ≤ 1000000) →
    FnH Tryz.prog 125 [(1700000008, .box 0 [.ref 1700000010 t.ver 0 c.length]), (1700000010, .row t.ver ⟨1, false⟩ true (t.zs.map eI)), (1700000004, .box 0 [eI m.chambers, eI m.depths, eI m.step, eI m.same, eI m.least]), (1700000007, .box 0 [.clo 97 [.ptr 1500000003 0 0 0, .ptr 1500000007 0 0 0]]), (1700000005, .box 0 [.val (.slice none 0 0)]), (1700000006, .box 0 [.val .nilFunc]), (1700000009, .box 0 [.clo 125 [.ptr 1700000008 0 0 0, .ptr 1700000004 0 0 0, .ptr 1700000007 0 0 0, .ptr 1700000005 0 0 0, .ptr 1700000006 0 0 0, .ptr 1700000009 0 0 0]]), (1500000003, .box 0 [eIs key]), (1500000007, .box 0 [eI t.s])] [eB false, .ptr 1700000008 0 0 0, .ptr 1700000004 0 0 0, .ptr 1700000007 0 0 0, .ptr 1700000005 0 0 0, .ptr 1700000006 0 0 0, .ptr 1700000009 0 0 0]
      (fun r m' => r = eB (cutF m (rankF key) n c t).2 ∧ m' = [(1700000008, .box 0 [.ref 1700000010 (cutF m (rankF key) n c t).1.ver 0 c.length]), (1700000010, .row (cutF m (rankF key) n c t).1.ver ⟨1, false⟩ true ((cutF m (rankF key) n c t).1.zs.map eI)), (1700000004, .box 0 [eI m.chambers, eI m.depths, eI m.step, eI m.same, eI m.least]), (1700000007, .box 0 [.clo 97 [.ptr 1500000003 0 0 0, .ptr 1500000007 0 0 0]]), (1700000005, .box 0 [.val (.slice none 0 0)]), (1700000006, .box 0 [.val .nilFunc]), (1700000009, .box 0 [.clo 125 [.ptr 1700000008 0 0 0, .ptr 1700000004 0 0 0, .ptr 1700000007 0 0 0, .ptr 1700000005 0 0 0, .ptr 1700000006 0 0 0, .ptr 1700000009 0 0 0]]), (1500000003, .box 0 [eIs key]), (1500000007, .box 0 [eI (cutF m (rankF key) n c t).1.s])]) := by
  intro n
  have ⟨⟨hch1, hch2⟩, hd1, hd2⟩ := isMk_num hm
  induction n with
  | zero =>
    intro c t hl hc hz hs
    have hk : ((c.length : Int) == m.chambers) = true := beq_iff_eq.2 (by omega)
    have ht : List.take c.length (List.map eI t.zs) = List.map eI c := by rw [← List.map_take, hz.1]
    have hzl : c.length ≤ (List.map eI t.zs).length := by simpa using hz.2
    refine FnH.of_vc 91 [.tmp 8] Tryz.func125 rfl rfl rfl rfl rfl (of_decide_eq_true rfl) ?_
    simp -dsimp -implicitDefEqProofs only [go_sem, ↓reduceIte, Nat.reduceEqDiff, Nat.reduceLT, Nat.reduceAdd, Nat.reduceMul, Nat.reduceLeDiff, Nat.le_refl, Int.natCast_zero, Int.toNat_natCast, Int.reduceToNat, hk]
    refine Later.solo 8 mixed rfl ?_
    simp -dsimp -implicitDefEqProofs only [List.take_succ_cons, List.take_zero, List.drop_succ_cons, List.drop_zero]
    have hdif := c_different c (by omega)
    rcases hq : decide ((kindsTo c c.length : Int) < m.least) with _ | _
    · have hq' := of_decide_eq_false hq
      have hcut : cutF m (rankF key) 0 c t = (⟨t.ver, t.zs, ((rankF key) t.s c).1⟩, ((rankF key) t.s c).2) := by rw [cutF, if_neg hq']
      rw [hcut]
      simp -dsimp -implicitDefEqProofs only [go_sem, ↓reduceIte, Nat.reduceEqDiff, Nat.reduceLT, Nat.reduceAdd, Nat.reduceMul, Nat.reduceLeDiff, Nat.le_refl, Int.natCast_zero, Int.toNat_natCast, Int.reduceToNat, hk, ht, List.drop_zero]
      refine ⟨hz.2, ?_⟩
      (refine sCallX_one (hdif) ?_; try simp -dsimp -implicitDefEqProofs only [go_sem, ↓reduceIte, Nat.reduceEqDiff, Nat.reduceLT, Nat.reduceAdd, Nat.reduceMul, Nat.reduceLeDiff, Nat.le_refl, Int.natCast_zero, Int.toNat_natCast, Int.reduceToNat, *])
      refine ⟨by exact rfl, hz.2, ?_⟩
      refine sCallT_H (vis_R key hkey c t.ver (t.zs.map eI) t.s (by omega) ht (by omega)) ⟨⟨?_, ?_⟩, ?_, ?_⟩ ?_
      · simp -dsimp -implicitDefEqProofs only [go_sem, ↓reduceIte, Nat.reduceEqDiff, Nat.reduceLT, Nat.reduceAdd, Nat.reduceMul, Nat.reduceLeDiff, Nat.le_refl, Int.natCast_zero, Int.toNat_natCast, Int.reduceToNat]
      · simp -dsimp -implicitDefEqProofs only [go_sem, ↓reduceIte, Nat.reduceEqDiff, Nat.reduceLT, Nat.reduceAdd, Nat.reduceMul, Nat.reduceLeDiff, Nat.le_refl, Int.natCast_zero, Int.toNat_natCast, Int.reduceToNat]
        simp
      · simp -dsimp -implicitDefEqProofs only [go_sem, ↓reduceIte, Nat.reduceEqDiff, Nat.reduceLT, Nat.reduceAdd, Nat.reduceMul, Nat.reduceLeDiff, Nat.le_refl, Int.natCast_zero, Int.toNat_natCast, Int.reduceToNat]
      · simp -dsimp -implicitDefEqProofs only [go_sem, ↓reduceIte, Nat.reduceEqDiff, Nat.reduceLT, Nat.reduceAdd, Nat.reduceMul, Nat.reduceLeDiff, Nat.le_refl, Int.natCast_zero, Int.toNat_natCast, Int.reduceToNat]
        simp
      · rintro r m' ⟨hr, hm'⟩
        rw [hr, hm']
        simp -dsimp -implicitDefEqProofs only [go_sem, ↓reduceIte, Nat.reduceEqDiff, Nat.reduceLT, Nat.reduceAdd, Nat.reduceMul, Nat.reduceLeDiff, Nat.le_refl, Int.natCast_zero, Int.toNat_natCast, Int.reduceToNat]
        refine ⟨_, rfl, keepsM_of ?_ ?_⟩
        · simp -dsimp -implicitDefEqProofs only [go_sem, ↓reduceIte, Nat.reduceEqDiff, Nat.reduceLT, Nat.reduceAdd, Nat.reduceMul, Nat.reduceLeDiff, Nat.le_refl, Int.natCast_zero, Int.toNat_natCast, Int.reduceToNat]
        · simp -dsimp -implicitDefEqProofs only [go_sem, ↓reduceIte, Nat.reduceEqDiff, Nat.reduceLT, Nat.reduceAdd, Nat.reduceMul, Nat.reduceLeDiff, Nat.le_refl, Int.natCast_zero, Int.toNat_natCast, Int.reduceToNat]
          simp [labs, labsL, inLs]
    · have hq' := of_decide_eq_true hq
      have hcut : cutF m (rankF key) 0 c t = (t, true) := by rw [cutF, if_pos hq']
      rw [hcut]
      simp -dsimp -implicitDefEqProofs only [go_sem, ↓reduceIte, Nat.reduceEqDiff, Nat.reduceLT, Nat.reduceAdd, Nat.reduceMul, Nat.reduceLeDiff, Nat.le_refl, Int.natCast_zero, Int.toNat_natCast, Int.reduceToNat, hk, ht, List.drop_zero]
      refine ⟨hz.2, ?_⟩
      (refine sCallX_one (hdif) ?_; try simp -dsimp -implicitDefEqProofs only [go_sem, ↓reduceIte, Nat.reduceEqDiff, Nat.reduceLT, Nat.reduceAdd, Nat.reduceMul, Nat.reduceLeDiff, Nat.le_refl, Int.natCast_zero, Int.toNat_natCast, Int.reduceToNat, *])
      refine ⟨by exact rfl, _, rfl, keepsM_of ?_ ?_⟩
      · simp -dsimp -implicitDefEqProofs only [go_sem, ↓reduceIte, Nat.reduceEqDiff, Nat.reduceLT, Nat.reduceAdd, Nat.reduceMul, Nat.reduceLeDiff, Nat.le_refl, Int.natCast_zero, Int.toNat_natCast, Int.reduceToNat]
      · simp -dsimp -implicitDefEqProofs only [go_sem, ↓reduceIte, Nat.reduceEqDiff, Nat.reduceLT, Nat.reduceAdd, Nat.reduceMul, Nat.reduceLeDiff, Nat.le_refl, Int.natCast_zero, Int.toNat_natCast, Int.reduceToNat]
        simp [labs, labsL, inLs]
  | succ n ih =>
    intro c t hl hc hz hs
    have hk : ((c.length : Int) == m.chambers) = false := beq_eq_false_iff_ne.2 (by omega)
    refine FnH.of_vc 91 [.tmp 8] Tryz.func125 rfl rfl rfl rfl rfl (of_decide_eq_true rfl) ?_
    simp -dsimp -implicitDefEqProofs only [go_sem, ↓reduceIte, Nat.reduceEqDiff, Nat.reduceLT, Nat.reduceAdd, Nat.reduceMul, Nat.reduceLeDiff, Nat.le_refl, Int.natCast_zero, Int.toNat_natCast, Int.reduceToNat, hk]
    refine Later.up [0, 1, 2, 5, 6, 9, 10] [47, 61, 69, 70, 72, 84] [1700000008, 1700000010, 1500000007] m.depths.toNat (fun i => (stN (cutB m (rankF key) n c) t i).2 = true) (fun i => [(11, eI i)]) (fun i => [(1700000008, .box 0 [.ref 1700000010 (stN (cutB m (rankF key) n c) t i).1.ver 0 c.length]), (1700000010, .row (stN (cutB m (rankF key) n c) t i).1.ver ⟨1, false⟩ true ((stN (cutB m (rankF key) n c) t i).1.zs.map eI)), (1500000007, .box 0 [eI (stN (cutB m (rankF key) n c) t i).1.s])]) rfl ?_ rfl (fun i hi hI => ?_) (fun hI => ?_)
    · simp -dsimp -implicitDefEqProofs only [go_sem, ↓reduceIte, Nat.reduceEqDiff, Nat.reduceLT, Nat.reduceAdd, Nat.reduceMul, Nat.reduceLeDiff, Nat.le_refl, Int.natCast_zero, Int.toNat_natCast, Int.reduceToNat]
      simp [stN]
    · have hu : okZ c (stN (cutB m (rankF key) n c) t i).1 := stN_okZ hz i
      have hb := stN_inc hm (cutF_inc hm (f := (rankF key)) (fun s k => by unfold rankF; split; exact ⟨Int.le_refl _, (by show s ≤ s + 1; omega)⟩; exact ⟨(by show s ≤ s + 1; omega), Int.le_refl _⟩) n) t i (c := c)
      have hp : (0 : Int) < 8 ^ n := Int.pow_pos (by decide)
      have h8 : (i : Int) * 8 ^ n ≤ 7 * 8 ^ n := Int.mul_le_mul_of_nonneg_right (by omega) (by omega)
      have h9 : (8 : Int) ^ (n + 1) = 8 * 8 ^ n := by rw [Int.pow_succ, Int.mul_comm]
      have hlt : decide ((i : Int) < m.depths) = true := decide_eq_true (by omega)
      have hS := stN_succ hI
      have hfin : (cutB m (rankF key) n c i (stN (cutB m (rankF key) n c) t i).1).2 = false → cutF m (rankF key) (n + 1) c t = cutB m (rankF key) n c i (stN (cutB m (rankF key) n c) t i).1 := fun h => by
        rw [← hS] at h ⊢
        rw [cutF_succ, stN_stop h m.depths.toNat (by omega)]
      rw [hS]
      clear hS hI
      generalize (stN (cutB m (rankF key) n c) t i).1 = u at *
      obtain ⟨hu1, hu2⟩ := hu
      have htk : List.take c.length (List.map eI u.zs) = List.map eI c := by rw [← List.map_take, hu1]
      have hbounds : 0 ≤ u.s ∧ u.s + 8 ^ n ≤ 1000000 := by omega
      have hcl : c.length ≤ 6 := by omega
      have hih := ih (c ++ [(i : Int)]) ⟨u.ver + 1, c ++ [(i : Int)], u.s⟩ (by simp; omega) (fun x hx => by
        rcases List.mem_append.1 hx with h | h
        · exact hc x h
        · simp at h; omega) ⟨List.take_length, Nat.le_refl _⟩ hbounds
      simp only [List.length_append, List.length_cons, List.length_nil, Nat.zero_add] at hih
      have hrun := c_sameRun (c ++ [(i : Int)]) (by simp) (by simp; omega)
      simp only [List.length_append, List.length_cons, List.length_nil, Nat.zero_add, Nat.add_sub_cancel] at hrun
      have hmap : List.map eI c ++ [eI (i : Int)] = List.map eI (c ++ [(i : Int)]) := by simp
      have hstep : stepOk m c i = (c.isEmpty || !decide (absN ((i : Int) - c.getD (c.length - 1) 0) > m.step)) := by
        unfold stepOk
        congr 1
        by_cases h : absN ((i : Int) - c.getD (c.length - 1) 0) ≤ m.step
        · rw [decide_eq_true h, decide_eq_false (by omega)]; rfl
        · rw [decide_eq_false h, decide_eq_true (by omega)]; rfl
      have hrunok : runOk m c i = !decide ((runAt (c ++ [(i : Int)]) c.length : Int) > m.same) := by
        unfold runOk
        by_cases h : (runAt (c ++ [(i : Int)]) c.length : Int) ≤ m.same
        · rw [decide_eq_true h, decide_eq_false (by omega)]; rfl
        · rw [decide_eq_false h, decide_eq_true (by omega)]; rfl
      simp -dsimp -implicitDefEqProofs only [pick_nil, pick_cons, look_nil, look_cons, dropB_nil, dropB_cons, inD_nil, inD_cons, inE_nil, inE_cons, or_t_l, or_f_l, Nat.reduceBEq, Nat.reduceDiv, Nat.reduceAdd, beq_self_eq_true, Bool.false_eq_true, Bool.or_false, ↓reduceIte, Nat.reduceEqDiff, List.cons_append, List.nil_append]
      simp -dsimp -implicitDefEqProofs only [go_sem, ↓reduceIte, Nat.reduceEqDiff, Nat.reduceLT, Nat.reduceAdd, Nat.reduceMul, Nat.reduceLeDiff, Nat.le_refl, Int.natCast_zero, Int.toNat_natCast, Int.reduceToNat, hlt]
      refine Later.draw mixed rfl ?_
      have hfn : fnRes Tryz.prog 125 .neq = some false := rfl
      rcases hk0 : decide ((c.length : Int) > 0) with _ | _
      · have hce : c = [] := by
          have := of_decide_eq_false hk0
          exact List.eq_nil_of_length_eq_zero (by omega)
        have hsT : stepOk m c i = true := by rw [hce]; rfl
        clear hce
        simp -dsimp -implicitDefEqProofs only [go_sem, ↓reduceIte, Nat.reduceEqDiff, Nat.reduceLT, Nat.reduceAdd, Nat.reduceMul, Nat.reduceLeDiff, Nat.le_refl, Int.natCast_zero, Int.toNat_natCast, Int.reduceToNat, hfn, hk0]
        refine ⟨by exact rfl, hu2, by omega, ?_⟩
        refine Later.solo 13 mixed rfl ?_
        simp -dsimp -implicitDefEqProofs only [List.take_succ_cons, List.take_zero, List.drop_succ_cons, List.drop_zero]
        have htl : List.take (c.length + 1) (List.map eI (c ++ [(i : Int)])) = List.map eI (c ++ [(i : Int)]) := List.take_of_length_le (by simp)
        rcases hq2 : decide ((runAt (c ++ [(i : Int)]) c.length : Int) > m.same) with _ | _
        · have hcB : cutB m (rankF key) n c i u = cutF m (rankF key) n (c ++ [(i : Int)]) ⟨u.ver + 1, c ++ [(i : Int)], u.s⟩ := by rw [cutB, if_pos hsT, if_pos (by rw [hrunok, hq2]; rfl), hu1]
          rw [hcB] at hfin ⊢
          clear hcB
          generalize cutF m (rankF key) n (c ++ [(i : Int)]) ⟨u.ver + 1, c ++ [(i : Int)], u.s⟩ = w at *
          obtain ⟨w, b⟩ := w
          simp -dsimp -implicitDefEqProofs only [go_sem, ↓reduceIte, Nat.reduceEqDiff, Nat.reduceLT, Nat.reduceAdd, Nat.reduceMul, Nat.reduceLeDiff, Nat.le_refl, Int.natCast_zero, Int.toNat_natCast, Int.reduceToNat, htk, hmap, htl]
          (refine sCallX_one (hrun) ?_; try simp -dsimp -implicitDefEqProofs only [go_sem, ↓reduceIte, Nat.reduceEqDiff, Nat.reduceLT, Nat.reduceAdd, Nat.reduceMul, Nat.reduceLeDiff, Nat.le_refl, Int.natCast_zero, Int.toNat_natCast, Int.reduceToNat, *])
          refine ⟨by exact rfl, ?_⟩
          refine sCallT_H hih ⟨⟨?_, ?_⟩, ?_, ?_⟩ ?_
          · simp -dsimp -implicitDefEqProofs only [go_sem, ↓reduceIte, Nat.reduceEqDiff, Nat.reduceLT, Nat.reduceAdd, Nat.reduceMul, Nat.reduceLeDiff, Nat.le_refl, Int.natCast_zero, Int.toNat_natCast, Int.reduceToNat]
          · simp -dsimp -implicitDefEqProofs only [go_sem, ↓reduceIte, Nat.reduceEqDiff, Nat.reduceLT, Nat.reduceAdd, Nat.reduceMul, Nat.reduceLeDiff, Nat.le_refl, Int.natCast_zero, Int.toNat_natCast, Int.reduceToNat]
            simp [labs, labsL, inLs]
          · simp -dsimp -implicitDefEqProofs only [go_sem, ↓reduceIte, Nat.reduceEqDiff, Nat.reduceLT, Nat.reduceAdd, Nat.reduceMul, Nat.reduceLeDiff, Nat.le_refl, Int.natCast_zero, Int.toNat_natCast, Int.reduceToNat]
          · simp -dsimp -implicitDefEqProofs only [go_sem, ↓reduceIte, Nat.reduceEqDiff, Nat.reduceLT, Nat.reduceAdd, Nat.reduceMul, Nat.reduceLeDiff, Nat.le_refl, Int.natCast_zero, Int.toNat_natCast, Int.reduceToNat]
            simp [labs, labsL, inLs]
          · rintro r m' ⟨hr, hm'⟩
            rw [hr, hm']
            clear hr hm'
            cases b with
            | false =>
              rw [hfin rfl]
              simp -dsimp -implicitDefEqProofs only [go_sem, ↓reduceIte, Nat.reduceEqDiff, Nat.reduceLT, Nat.reduceAdd, Nat.reduceMul, Nat.reduceLeDiff, Nat.le_refl, Int.natCast_zero, Int.toNat_natCast, Int.reduceToNat]
              refine ⟨by omega, _, rfl, keepsM_of ?_ ?_⟩
              · simp -dsimp -implicitDefEqProofs only [go_sem, ↓reduceIte, Nat.reduceEqDiff, Nat.reduceLT, Nat.reduceAdd, Nat.reduceMul, Nat.reduceLeDiff, Nat.le_refl, Int.natCast_zero, Int.toNat_natCast, Int.reduceToNat]
              · simp -dsimp -implicitDefEqProofs only [go_sem, ↓reduceIte, Nat.reduceEqDiff, Nat.reduceLT, Nat.reduceAdd, Nat.reduceMul, Nat.reduceLeDiff, Nat.le_refl, Int.natCast_zero, Int.toNat_natCast, Int.reduceToNat]
                simp [labs, labsL, inLs]
            | true =>
              simp -dsimp -implicitDefEqProofs only [go_sem, ↓reduceIte, Nat.reduceEqDiff, Nat.reduceLT, Nat.reduceAdd, Nat.reduceMul, Nat.reduceLeDiff, Nat.le_refl, Int.natCast_zero, Int.toNat_natCast, Int.reduceToNat]
              exact ⟨by omega, ⟨by omega, by omega⟩, by simp⟩
        · have hcB : cutB m (rankF key) n c i u = (⟨u.ver + 1, c ++ [(i : Int)], u.s⟩, true) := by rw [cutB, if_pos hsT, if_neg (by rw [hrunok, hq2]; exact fun h => by cases h), hu1]
          rw [hcB]
          clear hcB hfin
          simp -dsimp -implicitDefEqProofs only [go_sem, ↓reduceIte, Nat.reduceEqDiff, Nat.reduceLT, Nat.reduceAdd, Nat.reduceMul, Nat.reduceLeDiff, Nat.le_refl, Int.natCast_zero, Int.toNat_natCast, Int.reduceToNat, htk, hmap, htl]
          (refine sCallX_one (hrun) ?_; try simp -dsimp -implicitDefEqProofs only [go_sem, ↓reduceIte, Nat.reduceEqDiff, Nat.reduceLT, Nat.reduceAdd, Nat.reduceMul, Nat.reduceLeDiff, Nat.le_refl, Int.natCast_zero, Int.toNat_natCast, Int.reduceToNat, *])
          exact ⟨by exact rfl, by omega, ⟨by omega, by omega⟩, by simp⟩
      · have hkp := of_decide_eq_true hk0
        have hla : c.getD (c.length - 1) 0 = c[c.length - 1] := by simp [List.getD_eq_getElem?_getD, show c.length - 1 < c.length by omega]
        have hlast : (List.map eI u.zs)[c.length - 1]? = some (eI (c.getD (c.length - 1) 0)) := by
          have h1 : (List.take c.length (List.map eI u.zs))[c.length - 1]? = (List.map eI u.zs)[c.length - 1]? := by rw [List.getElem?_take]; simp; omega
          rw [← h1, htk, hla]; simp [show c.length - 1 < c.length by omega]
        have hlb := hc _ (List.getElem_mem (show c.length - 1 < c.length by omega))
        rw [← hla] at hlb
        generalize c.getD (c.length - 1) 0 = z at *
        clear hla
        have e1 : ((c.length : Int) - 1).toNat = c.length - 1 := by omega
        have habs := c_absolute ((i : Int) - z) (by omega)
        rcases hq : decide (absN ((i : Int) - z) > m.step) with _ | _
        · have hsT : stepOk m c i = true := by rw [hstep, hq]; simp
          simp -dsimp -implicitDefEqProofs only [go_sem, ↓reduceIte, Nat.reduceEqDiff, Nat.reduceLT, Nat.reduceAdd, Nat.reduceMul, Nat.reduceLeDiff, Nat.le_refl, Int.natCast_zero, Int.toNat_natCast, Int.reduceToNat, hfn, hk0, e1, hlast]
          refine ⟨⟨by omega, by omega⟩, ⟨by omega, by omega⟩, ⟨by omega, by omega⟩, ?_⟩
          (refine sCallX_one (habs) ?_; try simp -dsimp -implicitDefEqProofs only [go_sem, ↓reduceIte, Nat.reduceEqDiff, Nat.reduceLT, Nat.reduceAdd, Nat.reduceMul, Nat.reduceLeDiff, Nat.le_refl, Int.natCast_zero, Int.toNat_natCast, Int.reduceToNat, *])
          refine ⟨by exact rfl, by omega, ?_⟩
          refine Later.solo 13 mixed rfl ?_
          simp -dsimp -implicitDefEqProofs only [List.take_succ_cons, List.take_zero, List.drop_succ_cons, List.drop_zero]
          have htl : List.take (c.length + 1) (List.map eI (c ++ [(i : Int)])) = List.map eI (c ++ [(i : Int)]) := List.take_of_length_le (by simp)
          rcases hq2 : decide ((runAt (c ++ [(i : Int)]) c.length : Int) > m.same) with _ | _
          · have hcB : cutB m (rankF key) n c i u = cutF m (rankF key) n (c ++ [(i : Int)]) ⟨u.ver + 1, c ++ [(i : Int)], u.s⟩ := by rw [cutB, if_pos hsT, if_pos (by rw [hrunok, hq2]; rfl), hu1]
            rw [hcB] at hfin ⊢
            clear hcB
            generalize cutF m (rankF key) n (c ++ [(i : Int)]) ⟨u.ver + 1, c ++ [(i : Int)], u.s⟩ = w at *
            obtain ⟨w, b⟩ := w
            simp -dsimp -implicitDefEqProofs only [go_sem, ↓reduceIte, Nat.reduceEqDiff, Nat.reduceLT, Nat.reduceAdd, Nat.reduceMul, Nat.reduceLeDiff, Nat.le_refl, Int.natCast_zero, Int.toNat_natCast, Int.reduceToNat, htk, hmap, htl]
            (refine sCallX_one (hrun) ?_; try simp -dsimp -implicitDefEqProofs only [go_sem, ↓reduceIte, Nat.reduceEqDiff, Nat.reduceLT, Nat.reduceAdd, Nat.reduceMul, Nat.reduceLeDiff, Nat.le_refl, Int.natCast_zero, Int.toNat_natCast, Int.reduceToNat, *])
            refine ⟨by exact rfl, ?_⟩
            refine sCallT_H hih ⟨⟨?_, ?_⟩, ?_, ?_⟩ ?_
            · simp -dsimp -implicitDefEqProofs only [go_sem, ↓reduceIte, Nat.reduceEqDiff, Nat.reduceLT, Nat.reduceAdd, Nat.reduceMul, Nat.reduceLeDiff, Nat.le_refl, Int.natCast_zero, Int.toNat_natCast, Int.reduceToNat]
            · simp -dsimp -implicitDefEqProofs only [go_sem, ↓reduceIte, Nat.reduceEqDiff, Nat.reduceLT, Nat.reduceAdd, Nat.reduceMul, Nat.reduceLeDiff, Nat.le_refl, Int.natCast_zero, Int.toNat_natCast, Int.reduceToNat]
              simp [labs, labsL, inLs]
            · simp -dsimp -implicitDefEqProofs only [go_sem, ↓reduceIte, Nat.reduceEqDiff, Nat.reduceLT, Nat.reduceAdd, Nat.reduceMul, Nat.reduceLeDiff, Nat.le_refl, Int.natCast_zero, Int.toNat_natCast, Int.reduceToNat]
            · simp -dsimp -implicitDefEqProofs only [go_sem, ↓reduceIte, Nat.reduceEqDiff, Nat.reduceLT, Nat.reduceAdd, Nat.reduceMul, Nat.reduceLeDiff, Nat.le_refl, Int.natCast_zero, Int.toNat_natCast, Int.reduceToNat]
              simp [labs, labsL, inLs]
            · rintro r m' ⟨hr, hm'⟩
              rw [hr, hm']
              clear hr hm'
              cases b with
              | false =>
                rw [hfin rfl]
                simp -dsimp -implicitDefEqProofs only [go_sem, ↓reduceIte, Nat.reduceEqDiff, Nat.reduceLT, Nat.reduceAdd, Nat.reduceMul, Nat.reduceLeDiff, Nat.le_refl, Int.natCast_zero, Int.toNat_natCast, Int.reduceToNat]
                refine ⟨by omega, _, rfl, keepsM_of ?_ ?_⟩
                · simp -dsimp -implicitDefEqProofs only [go_sem, ↓reduceIte, Nat.reduceEqDiff, Nat.reduceLT, Nat.reduceAdd, Nat.reduceMul, Nat.reduceLeDiff, Nat.le_refl, Int.natCast_zero, Int.toNat_natCast, Int.reduceToNat]
                · simp -dsimp -implicitDefEqProofs only [go_sem, ↓reduceIte, Nat.reduceEqDiff, Nat.reduceLT, Nat.reduceAdd, Nat.reduceMul, Nat.reduceLeDiff, Nat.le_refl, Int.natCast_zero, Int.toNat_natCast, Int.reduceToNat]
                  simp [labs, labsL, inLs]
              | true =>
                simp -dsimp -implicitDefEqProofs only [go_sem, ↓reduceIte, Nat.reduceEqDiff, Nat.reduceLT, Nat.reduceAdd, Nat.reduceMul, Nat.reduceLeDiff, Nat.le_refl, Int.natCast_zero, Int.toNat_natCast, Int.reduceToNat]
                exact ⟨by omega, ⟨by omega, by omega⟩, by simp⟩
          · have hcB : cutB m (rankF key) n c i u = (⟨u.ver + 1, c ++ [(i : Int)], u.s⟩, true) := by rw [cutB, if_pos hsT, if_neg (by rw [hrunok, hq2]; exact fun h => by cases h), hu1]
            rw [hcB]
            clear hcB hfin
            simp -dsimp -implicitDefEqProofs only [go_sem, ↓reduceIte, Nat.reduceEqDiff, Nat.reduceLT, Nat.reduceAdd, Nat.reduceMul, Nat.reduceLeDiff, Nat.le_refl, Int.natCast_zero, Int.toNat_natCast, Int.reduceToNat, htk, hmap, htl]
            (refine sCallX_one (hrun) ?_; try simp -dsimp -implicitDefEqProofs only [go_sem, ↓reduceIte, Nat.reduceEqDiff, Nat.reduceLT, Nat.reduceAdd, Nat.reduceMul, Nat.reduceLeDiff, Nat.le_refl, Int.natCast_zero, Int.toNat_natCast, Int.reduceToNat, *])
            exact ⟨by exact rfl, by omega, ⟨by omega, by omega⟩, by simp⟩
        · have hsF : stepOk m c i = false := by
            rw [hstep, hq]
            cases c with
            | nil => simp at hkp
            | cons => rfl
          have hcB : cutB m (rankF key) n c i u = (u, true) := by rw [cutB, if_neg (by rw [hsF]; exact fun h => by cases h)]
          rw [hcB]
          clear hcB hfin
          simp -dsimp -implicitDefEqProofs only [go_sem, ↓reduceIte, Nat.reduceEqDiff, Nat.reduceLT, Nat.reduceAdd, Nat.reduceMul, Nat.reduceLeDiff, Nat.le_refl, Int.natCast_zero, Int.toNat_natCast, Int.reduceToNat, hfn, hk0, e1, hlast]
          refine ⟨⟨by omega, by omega⟩, ⟨by omega, by omega⟩, ⟨by omega, by omega⟩, ?_⟩
          (refine sCallX_one (habs) ?_; try simp -dsimp -implicitDefEqProofs only [go_sem, ↓reduceIte, Nat.reduceEqDiff, Nat.reduceLT, Nat.reduceAdd, Nat.reduceMul, Nat.reduceLeDiff, Nat.le_refl, Int.natCast_zero, Int.toNat_natCast, Int.reduceToNat, *])
          exact ⟨by exact rfl, ⟨by omega, by omega⟩, by simp⟩
    · simp -dsimp -implicitDefEqProofs only [pick_nil, pick_cons, look_nil, look_cons, dropB_nil, dropB_cons, inD_nil, inD_cons, inE_nil, inE_cons, or_t_l, or_f_l, Nat.reduceBEq, Nat.reduceDiv, Nat.reduceAdd, beq_self_eq_true, Bool.false_eq_true, Bool.or_false, ↓reduceIte, Nat.reduceEqDiff, List.cons_append, List.nil_append]
      have hlt : decide (((m.depths.toNat : Nat) : Int) < m.depths) = false := decide_eq_false (by omega)
      simp -dsimp -implicitDefEqProofs only [go_sem, ↓reduceIte, Nat.reduceEqDiff, Nat.reduceLT, Nat.reduceAdd, Nat.reduceMul, Nat.reduceLeDiff, Nat.le_refl, Int.natCast_zero, Int.toNat_natCast, Int.reduceToNat, hlt]
      rw [cutF_succ]
      refine ⟨_, ⟨by rw [hI], rfl⟩, keepsM_of ?_ ?_⟩
      · simp -dsimp -implicitDefEqProofs only [go_sem, ↓reduceIte, Nat.reduceEqDiff, Nat.reduceLT, Nat.reduceAdd, Nat.reduceMul, Nat.reduceLeDiff, Nat.le_refl, Int.natCast_zero, Int.toNat_natCast, Int.reduceToNat]
      · simp -dsimp -implicitDefEqProofs only [go_sem, ↓reduceIte, Nat.reduceEqDiff, Nat.reduceLT, Nat.reduceAdd, Nat.reduceMul, Nat.reduceLeDiff, Nat.le_refl, Int.natCast_zero, Int.toNat_natCast, Int.reduceToNat]
        simp [labs, labsL, inLs]
end Go.Vc


/-
  Contracts: numbers of keys and ranks, counted by their beginnings and by visits.
-/
set_option linter.unusedVariables false
set_option linter.unusedSimpArgs false
set_option linter.unnecessarySimpa false
namespace Go.Vc
open Go.Proofs
set_option maxRecDepth 100000
set_option maxHeartbeats 2000000
theorem c_l02Count (m : MkM) (hm : isMk m = true) : ∀ (n : Nat) (c : List Int), (c.length : Int) + n = m.chambers → (∀ x ∈ c, 0 ≤ x ∧ x ≤ 7) → Fn Tryz.prog 56 [eMk m, eIs c] true (· = eI (cnt m n c)) := by
  intro n
  have ⟨⟨hch1, hch2⟩, hd1, hd2⟩ := isMk_num hm
  induction n with
  | zero =>
    intro c hl hc
    refine Fn.of_vcN 37 [.tmp 4] Tryz.func56 rfl rfl rfl rfl rfl (of_decide_eq_true rfl) ?_
    have hbe := c_l02Begins m c hm (by omega) hc
    have hk : ((c.length : Int) == m.chambers) = true := beq_iff_eq.2 (by omega)
    rcases hb : okTo m c with _ | _
    · have hcnt : cnt m 0 c = 0 := by rw [cnt, if_neg (by rw [hb]; exact fun h => by cases h)]
      rw [hb] at hbe
      rw [hcnt]
      simp -dsimp -implicitDefEqProofs only [go_sem, ↓reduceIte, Nat.reduceEqDiff, Nat.reduceLT, Nat.reduceAdd, Nat.reduceMul, Nat.reduceLeDiff, Nat.le_refl, Int.natCast_zero, Int.toNat_natCast, Int.reduceToNat]
      (refine sCallT_one (hbe) ?_; try simp -dsimp -implicitDefEqProofs only [go_sem, ↓reduceIte, Nat.reduceEqDiff, Nat.reduceLT, Nat.reduceAdd, Nat.reduceMul, Nat.reduceLeDiff, Nat.le_refl, Int.natCast_zero, Int.toNat_natCast, Int.reduceToNat, *])
    · have hcnt := cnt_zero m c hb
      rw [hb] at hbe
      rw [hcnt]
      have hki := c_l02Kinds c (by omega)
      rcases hq : decide ((kindsTo c c.length : Int) < m.least) with _ | _
      · rw [if_neg (of_decide_eq_false hq)]
        clear hcnt hb
        simp -dsimp -implicitDefEqProofs only [go_sem, ↓reduceIte, Nat.reduceEqDiff, Nat.reduceLT, Nat.reduceAdd, Nat.reduceMul, Nat.reduceLeDiff, Nat.le_refl, Int.natCast_zero, Int.toNat_natCast, Int.reduceToNat]
        (refine sCallT_one (hbe) ?_; try simp -dsimp -implicitDefEqProofs only [go_sem, ↓reduceIte, Nat.reduceEqDiff, Nat.reduceLT, Nat.reduceAdd, Nat.reduceMul, Nat.reduceLeDiff, Nat.le_refl, Int.natCast_zero, Int.toNat_natCast, Int.reduceToNat, *])
        refine Later.draw mixed rfl ?_
        simp -dsimp -implicitDefEqProofs only [go_sem, ↓reduceIte, Nat.reduceEqDiff, Nat.reduceLT, Nat.reduceAdd, Nat.reduceMul, Nat.reduceLeDiff, Nat.le_refl, Int.natCast_zero, Int.toNat_natCast, Int.reduceToNat]
        (refine sCallX_one (hki) ?_; try simp -dsimp -implicitDefEqProofs only [go_sem, ↓reduceIte, Nat.reduceEqDiff, Nat.reduceLT, Nat.reduceAdd, Nat.reduceMul, Nat.reduceLeDiff, Nat.le_refl, Int.natCast_zero, Int.toNat_natCast, Int.reduceToNat, *])
        first | exact rfl | exact ⟨by exact rfl, rfl⟩
      · rw [if_pos (of_decide_eq_true hq)]
        clear hcnt hb
        simp -dsimp -implicitDefEqProofs only [go_sem, ↓reduceIte, Nat.reduceEqDiff, Nat.reduceLT, Nat.reduceAdd, Nat.reduceMul, Nat.reduceLeDiff, Nat.le_refl, Int.natCast_zero, Int.toNat_natCast, Int.reduceToNat]
        (refine sCallT_one (hbe) ?_; try simp -dsimp -implicitDefEqProofs only [go_sem, ↓reduceIte, Nat.reduceEqDiff, Nat.reduceLT, Nat.reduceAdd, Nat.reduceMul, Nat.reduceLeDiff, Nat.le_refl, Int.natCast_zero, Int.toNat_natCast, Int.reduceToNat, *])
        refine Later.draw mixed rfl ?_
        simp -dsimp -implicitDefEqProofs only [go_sem, ↓reduceIte, Nat.reduceEqDiff, Nat.reduceLT, Nat.reduceAdd, Nat.reduceMul, Nat.reduceLeDiff, Nat.le_refl, Int.natCast_zero, Int.toNat_natCast, Int.reduceToNat]
        (refine sCallX_one (hki) ?_; try simp -dsimp -implicitDefEqProofs only [go_sem, ↓reduceIte, Nat.reduceEqDiff, Nat.reduceLT, Nat.reduceAdd, Nat.reduceMul, Nat.reduceLeDiff, Nat.le_refl, Int.natCast_zero, Int.toNat_natCast, Int.reduceToNat, *])
        first | exact rfl | exact ⟨by exact rfl, rfl⟩
  | succ n ih =>
    intro c hl hc
    refine Fn.of_vcN 37 [.tmp 4] Tryz.func56 rfl rfl rfl rfl rfl (of_decide_eq_true rfl) ?_
    have hbe := c_l02Begins m c hm (by omega) hc
    have hk : ((c.length : Int) == m.chambers) = false := beq_eq_false_iff_ne.2 (by omega)
    rcases hb : okTo m c with _ | _
    · have hcnt : cnt m (n + 1) c = 0 := by rw [cnt, if_neg (by rw [hb]; exact fun h => by cases h)]
      rw [hb] at hbe
      rw [hcnt]
      simp -dsimp -implicitDefEqProofs only [go_sem, ↓reduceIte, Nat.reduceEqDiff, Nat.reduceLT, Nat.reduceAdd, Nat.reduceMul, Nat.reduceLeDiff, Nat.le_refl, Int.natCast_zero, Int.toNat_natCast, Int.reduceToNat]
      (refine sCallT_one (hbe) ?_; try simp -dsimp -implicitDefEqProofs only [go_sem, ↓reduceIte, Nat.reduceEqDiff, Nat.reduceLT, Nat.reduceAdd, Nat.reduceMul, Nat.reduceLeDiff, Nat.le_refl, Int.natCast_zero, Int.toNat_natCast, Int.reduceToNat, *])
    · have hcnt := cnt_succ m n c hb
      rw [hb] at hbe
      rw [hcnt]
      clear hcnt hb
      have hown := c_l01Own c (by omega)
      simp -dsimp -implicitDefEqProofs only [go_sem, ↓reduceIte, Nat.reduceEqDiff, Nat.reduceLT, Nat.reduceAdd, Nat.reduceMul, Nat.reduceLeDiff, Nat.le_refl, Int.natCast_zero, Int.toNat_natCast, Int.reduceToNat]
      (refine sCallT_one (hbe) ?_; try simp -dsimp -implicitDefEqProofs only [go_sem, ↓reduceIte, Nat.reduceEqDiff, Nat.reduceLT, Nat.reduceAdd, Nat.reduceMul, Nat.reduceLeDiff, Nat.le_refl, Int.natCast_zero, Int.toNat_natCast, Int.reduceToNat, *])
      refine Later.up [1, 2] [30, 32, 33, 34] [] m.depths.toNat (fun _ => True) (fun i => [(6, eI i), (5, eI (cntTo m n c i))]) (fun _ => []) trivial ?_ rfl (fun i hi _ => ?_) (fun _ => ?_)
      · simp -dsimp -implicitDefEqProofs only [go_sem, ↓reduceIte, Nat.reduceEqDiff, Nat.reduceLT, Nat.reduceAdd, Nat.reduceMul, Nat.reduceLeDiff, Nat.le_refl, Int.natCast_zero, Int.toNat_natCast, Int.reduceToNat]
        try simp [cntTo]
      · have hih := ih (c ++ [(i : Int)]) (by simp; omega) (fun x hx => by
          rcases List.mem_append.1 hx with h | h
          · exact hc x h
          · simp at h; omega)
        have hlt : decide ((i : Int) < m.depths) = true := decide_eq_true (by omega)
        have hmap : List.map eI c ++ [eI (i : Int)] = List.map eI (c ++ [(i : Int)]) := by simp
        have htk : List.take c.length (List.map eI c) = List.map eI c := List.take_of_length_le (by simp)
        have htl : List.take (c.length + 1) (List.map eI (c ++ [(i : Int)])) = List.map eI (c ++ [(i : Int)]) := List.take_of_length_le (by simp)
        have hb1 := cntTo_le m hm n c i
        have hb2 := cnt_le m hm n (c ++ [(i : Int)])
        have hp : 8 ^ n ≤ 8 ^ 6 := Nat.pow_le_pow_right (by decide) (by omega)
        have h8 : i * 8 ^ n ≤ 7 * 8 ^ n := Nat.mul_le_mul_right _ (by omega)
        rw [cntTo_succ]
        clear ih
        generalize 8 ^ n = p at *
        generalize cntTo m n c i = A at *
        generalize cnt m n (c ++ [(i : Int)]) = Bn at *
        simp -dsimp -implicitDefEqProofs only [pick_nil, pick_cons, look_nil, look_cons, dropB_nil, dropB_cons, inD_nil, inD_cons, inE_nil, inE_cons, or_t_l, or_f_l, Nat.reduceBEq, Nat.reduceDiv, Nat.reduceAdd, beq_self_eq_true, Bool.false_eq_true, Bool.or_false, ↓reduceIte, Nat.reduceEqDiff, List.cons_append, List.nil_append]
        simp -dsimp -implicitDefEqProofs only [go_sem, ↓reduceIte, Nat.reduceEqDiff, Nat.reduceLT, Nat.reduceAdd, Nat.reduceMul, Nat.reduceLeDiff, Nat.le_refl, Int.natCast_zero, Int.toNat_natCast, Int.reduceToNat, hlt]
        refine Later.draw mixed rfl ?_
        simp -dsimp -implicitDefEqProofs only [go_sem, ↓reduceIte, Nat.reduceEqDiff, Nat.reduceLT, Nat.reduceAdd, Nat.reduceMul, Nat.reduceLeDiff, Nat.le_refl, Int.natCast_zero, Int.toNat_natCast, Int.reduceToNat]
        (refine sCallX_one (hown) ?_; try simp -dsimp -implicitDefEqProofs only [go_sem, ↓reduceIte, Nat.reduceEqDiff, Nat.reduceLT, Nat.reduceAdd, Nat.reduceMul, Nat.reduceLeDiff, Nat.le_refl, Int.natCast_zero, Int.toNat_natCast, Int.reduceToNat, *])
        refine ⟨by omega, ?_⟩
        (refine sCallX_one (hih) ?_; try simp -dsimp -implicitDefEqProofs only [go_sem, ↓reduceIte, Nat.reduceEqDiff, Nat.reduceLT, Nat.reduceAdd, Nat.reduceMul, Nat.reduceLeDiff, Nat.le_refl, Int.natCast_zero, Int.toNat_natCast, Int.reduceToNat, *])
        exact ⟨⟨by omega, by omega⟩, by exact rfl, ⟨by omega, by omega⟩, by simp, by simp⟩
      · have hlt : decide (((m.depths.toNat : Nat) : Int) < m.depths) = false := decide_eq_false (by omega)
        simp -dsimp -implicitDefEqProofs only [pick_nil, pick_cons, look_nil, look_cons, dropB_nil, dropB_cons, inD_nil, inD_cons, inE_nil, inE_cons, or_t_l, or_f_l, Nat.reduceBEq, Nat.reduceDiv, Nat.reduceAdd, beq_self_eq_true, Bool.false_eq_true, Bool.or_false, ↓reduceIte, Nat.reduceEqDiff, List.cons_append, List.nil_append]
        simp -dsimp -implicitDefEqProofs only [go_sem, ↓reduceIte, Nat.reduceEqDiff, Nat.reduceLT, Nat.reduceAdd, Nat.reduceMul, Nat.reduceLeDiff, Nat.le_refl, Int.natCast_zero, Int.toNat_natCast, Int.reduceToNat, hlt]
theorem c_keysCode1 (m : MkM) (key : List Int) (h : key.length ≤ 1048576) : Fn Tryz.prog 95 [eMk m, eIss [key]] true (· = eI (if isMk m = true then if fault m key = 0 then 0 else 2 else 1)) := by
  refine Fn.of_vcN 21 [.tmp 4] Tryz.func95 rfl rfl rfl rfl rfl (of_decide_eq_true rfl) ?_
  have hm0 := c_iIsMaker m
  rcases hm : isMk m with _ | _
  · rw [hm] at hm0
    clear hm
    simp -dsimp -implicitDefEqProofs only [go_sem, ↓reduceIte, Nat.reduceEqDiff, Nat.reduceLT, Nat.reduceAdd, Nat.reduceMul, Nat.reduceLeDiff, Nat.le_refl, Int.natCast_zero, Int.toNat_natCast, Int.reduceToNat]
    repeat' (refine sCallT_one (hm0) ?_; try simp -dsimp -implicitDefEqProofs only [go_sem, ↓reduceIte, Nat.reduceEqDiff, Nat.reduceLT, Nat.reduceAdd, Nat.reduceMul, Nat.reduceLeDiff, Nat.le_refl, Int.natCast_zero, Int.toNat_natCast, Int.reduceToNat, *])
    all_goals simp
  · have hk : Fn Tryz.prog 124 [eMk m, eIs key] true (· = eB (fault m key == 0)) := by
      refine Fn.of_vcN 9 [.tmp 4] Tryz.func124 rfl rfl rfl rfl rfl (of_decide_eq_true rfl) ?_
      have hf := c_keyFault m key hm h
      simp -dsimp -implicitDefEqProofs only [go_sem, ↓reduceIte, Nat.reduceEqDiff, Nat.reduceLT, Nat.reduceAdd, Nat.reduceMul, Nat.reduceLeDiff, Nat.le_refl, Int.natCast_zero, Int.toNat_natCast, Int.reduceToNat]
      repeat' (refine sCallT_one (hf) ?_; try simp -dsimp -implicitDefEqProofs only [go_sem, ↓reduceIte, Nat.reduceEqDiff, Nat.reduceLT, Nat.reduceAdd, Nat.reduceMul, Nat.reduceLeDiff, Nat.le_refl, Int.natCast_zero, Int.toNat_natCast, Int.reduceToNat, *])
    rw [hm] at hm0
    clear hm
    have h01 : decide ((0 : Int) < ((1 : Nat) : Int)) = true := rfl
    have h11 : decide (((1 : Nat) : Int) < ((1 : Nat) : Int)) = false := rfl
    rcases hq : (fault m key == 0) with _ | _
    all_goals
      have hF := hq
      simp only [beq_iff_eq, beq_eq_false_iff_ne] at hF
      rw [hq] at hk
      simp only [hF, if_true, if_false]
      clear hq hF
      simp -dsimp -implicitDefEqProofs only [go_sem, ↓reduceIte, Nat.reduceEqDiff, Nat.reduceLT, Nat.reduceAdd, Nat.reduceMul, Nat.reduceLeDiff, Nat.le_refl, Int.natCast_zero, Int.toNat_natCast, Int.reduceToNat]
      repeat' (refine sCallT_one (hm0) ?_; try simp -dsimp -implicitDefEqProofs only [go_sem, ↓reduceIte, Nat.reduceEqDiff, Nat.reduceLT, Nat.reduceAdd, Nat.reduceMul, Nat.reduceLeDiff, Nat.le_refl, Int.natCast_zero, Int.toNat_natCast, Int.reduceToNat, *])
    · refine Later.up [2, 10, 11] [18] [] 1 (fun i => i = 0) (fun i => [(12, eI i)]) (fun _ => []) rfl ?_ rfl (fun i hi hI => ?_) (fun hI => ?_)
      · simp -dsimp -implicitDefEqProofs only [go_sem, ↓reduceIte, Nat.reduceEqDiff, Nat.reduceLT, Nat.reduceAdd, Nat.reduceMul, Nat.reduceLeDiff, Nat.le_refl, Int.natCast_zero, Int.toNat_natCast, Int.reduceToNat]
      · subst hI
        simp -dsimp -implicitDefEqProofs only [pick_nil, pick_cons, look_nil, look_cons, dropB_nil, dropB_cons, inD_nil, inD_cons, inE_nil, inE_cons, or_t_l, or_f_l, Nat.reduceBEq, Nat.reduceDiv, Nat.reduceAdd, beq_self_eq_true, Bool.false_eq_true, Bool.or_false, ↓reduceIte, Nat.reduceEqDiff, List.cons_append, List.nil_append]
        simp -dsimp -implicitDefEqProofs only [go_sem, ↓reduceIte, Nat.reduceEqDiff, Nat.reduceLT, Nat.reduceAdd, Nat.reduceMul, Nat.reduceLeDiff, Nat.le_refl, Int.natCast_zero, Int.toNat_natCast, Int.reduceToNat, h01]
        repeat' first
          | (with_reducible refine And.intro ?_ ?_)
          | (refine sCallT_one (hk) ?_; try simp -dsimp -implicitDefEqProofs only [go_sem, ↓reduceIte, Nat.reduceEqDiff, Nat.reduceLT, Nat.reduceAdd, Nat.reduceMul, Nat.reduceLeDiff, Nat.le_refl, Int.natCast_zero, Int.toNat_natCast, Int.reduceToNat, *])
        all_goals first
          | omega
          | exact ⟨by omega, by omega⟩
          | rfl
          | trace_state
      · cases hI
    · refine Later.up [2, 10, 11] [18] [] 1 (fun i => True) (fun i => [(12, eI i)]) (fun _ => []) trivial ?_ rfl (fun i hi hI => ?_) (fun hI => ?_)
      · simp -dsimp -implicitDefEqProofs only [go_sem, ↓reduceIte, Nat.reduceEqDiff, Nat.reduceLT, Nat.reduceAdd, Nat.reduceMul, Nat.reduceLeDiff, Nat.le_refl, Int.natCast_zero, Int.toNat_natCast, Int.reduceToNat]
      · obtain rfl : i = 0 := by omega
        simp -dsimp -implicitDefEqProofs only [pick_nil, pick_cons, look_nil, look_cons, dropB_nil, dropB_cons, inD_nil, inD_cons, inE_nil, inE_cons, or_t_l, or_f_l, Nat.reduceBEq, Nat.reduceDiv, Nat.reduceAdd, beq_self_eq_true, Bool.false_eq_true, Bool.or_false, ↓reduceIte, Nat.reduceEqDiff, List.cons_append, List.nil_append]
        simp -dsimp -implicitDefEqProofs only [go_sem, ↓reduceIte, Nat.reduceEqDiff, Nat.reduceLT, Nat.reduceAdd, Nat.reduceMul, Nat.reduceLeDiff, Nat.le_refl, Int.natCast_zero, Int.toNat_natCast, Int.reduceToNat, h01]
        repeat' first
          | (with_reducible refine And.intro ?_ ?_)
          | (refine sCallT_one (hk) ?_; try simp -dsimp -implicitDefEqProofs only [go_sem, ↓reduceIte, Nat.reduceEqDiff, Nat.reduceLT, Nat.reduceAdd, Nat.reduceMul, Nat.reduceLeDiff, Nat.le_refl, Int.natCast_zero, Int.toNat_natCast, Int.reduceToNat, *])
        all_goals first
          | omega
          | exact ⟨by omega, by omega⟩
          | rfl
          | trace_state
      · simp -dsimp -implicitDefEqProofs only [pick_nil, pick_cons, look_nil, look_cons, dropB_nil, dropB_cons, inD_nil, inD_cons, inE_nil, inE_cons, or_t_l, or_f_l, Nat.reduceBEq, Nat.reduceDiv, Nat.reduceAdd, beq_self_eq_true, Bool.false_eq_true, Bool.or_false, ↓reduceIte, Nat.reduceEqDiff, List.cons_append, List.nil_append]
        simp -dsimp -implicitDefEqProofs only [go_sem, ↓reduceIte, Nat.reduceEqDiff, Nat.reduceLT, Nat.reduceAdd, Nat.reduceMul, Nat.reduceLeDiff, Nat.le_refl, Int.natCast_zero, Int.toNat_natCast, Int.reduceToNat, h11]
theorem c_l03Rank (m : MkM) (key : List Int) (hm : isMk m = true) (hf : fault m key = 0) : Fn Tryz.prog 55 [eMk m, eIs key] true (· = eI (rankTo m key key.length)) := by
  refine Fn.of_vcN 34 [.tmp 4] Tryz.func55 rfl rfl rfl rfl rfl (of_decide_eq_true rfl) ?_
  obtain ⟨hl, hel, _, _⟩ := fault_out hf
  have ⟨⟨hch1, hch2⟩, hd1, hd2⟩ := isMk_num hm
  have hrb : ∀ i, i ≤ key.length → rankTo m key i ≤ i * 8 ^ 6 := by
    intro i hi
    induction i with
    | zero => simp [rankTo]
    | succ i ih =>
      have h1 := ih (by omega)
      have hx := hel (key.getD i 0) (by rw [List.getD_eq_getElem?_getD, List.getElem?_eq_getElem (by omega)]; exact List.getElem_mem _)
      have h2 := cntTo_le m hm (key.length - (i + 1)) (key.take i) (key.getD i 0).toNat
      have h3 : (key.getD i 0).toNat * 8 ^ (key.length - (i + 1)) ≤ 8 * 8 ^ 5 := Nat.mul_le_mul (by omega) (Nat.pow_le_pow_right (by decide) (by omega))
      rw [rankTo, Nat.succ_mul]
      omega
  simp -dsimp -implicitDefEqProofs only [go_sem, ↓reduceIte, Nat.reduceEqDiff, Nat.reduceLT, Nat.reduceAdd, Nat.reduceMul, Nat.reduceLeDiff, Nat.le_refl, Int.natCast_zero, Int.toNat_natCast, Int.reduceToNat]
  refine Later.up [1, 2] [10, 27, 29, 30, 31] [] key.length (fun _ => True) (fun i => [(6, eI i), (5, eI (rankTo m key i))]) (fun _ => []) trivial ?_ rfl (fun i hi _ => ?_) (fun _ => ?_)
  · simp -dsimp -implicitDefEqProofs only [go_sem, ↓reduceIte, Nat.reduceEqDiff, Nat.reduceLT, Nat.reduceAdd, Nat.reduceMul, Nat.reduceLeDiff, Nat.le_refl, Int.natCast_zero, Int.toNat_natCast, Int.reduceToNat]
    try simp [rankTo]
  · have gi := get_some hi
    have li := lt_len hi
    have hx := hel key[i] (List.getElem_mem hi)
    have hr1 := hrb i (by omega)
    have hgd : key.getD i 0 = key[i] := by simp [List.getD_eq_getElem?_getD, hi]
    have hrec : rankTo m key (i + 1) = rankTo m key i + cntTo m (key.length - (i + 1)) (key.take i) key[i].toNat := by rw [rankTo, hgd]
    rw [hrec]
    clear hrec hgd hrb
    have hcl : ∀ d, cntTo m (key.length - (i + 1)) (key.take i) d ≤ d * 8 ^ 5 := fun d => Nat.le_trans (cntTo_le m hm _ _ d) (Nat.mul_le_mul_left _ (Nat.pow_le_pow_right (by decide) (by omega)))
    generalize rankTo m key i = R at *
    simp -dsimp -implicitDefEqProofs only [pick_nil, pick_cons, look_nil, look_cons, dropB_nil, dropB_cons, inD_nil, inD_cons, inE_nil, inE_cons, or_t_l, or_f_l, Nat.reduceBEq, Nat.reduceDiv, Nat.reduceAdd, beq_self_eq_true, Bool.false_eq_true, Bool.or_false, ↓reduceIte, Nat.reduceEqDiff, List.cons_append, List.nil_append]
    simp -dsimp -implicitDefEqProofs only [go_sem, ↓reduceIte, Nat.reduceEqDiff, Nat.reduceLT, Nat.reduceAdd, Nat.reduceMul, Nat.reduceLeDiff, Nat.le_refl, Int.natCast_zero, Int.toNat_natCast, Int.reduceToNat, li, gi]
    refine Later.up [1, 2, 6] [27, 29, 30, 31] [] key[i].toNat (fun _ => True) (fun d => [(7, eI d), (5, eI ((R : Int) + cntTo m (key.length - (i + 1)) (key.take i) d))]) (fun _ => []) trivial ?_ rfl (fun d hd _ => ?_) (fun _ => ?_)
    · simp -dsimp -implicitDefEqProofs only [go_sem, ↓reduceIte, Nat.reduceEqDiff, Nat.reduceLT, Nat.reduceAdd, Nat.reduceMul, Nat.reduceLeDiff, Nat.le_refl, Int.natCast_zero, Int.toNat_natCast, Int.reduceToNat]
      try simp [cntTo]
    · have hlt : decide ((d : Int) < key[i]) = true := decide_eq_true (by omega)
      have hcnt := c_l02Count m hm (key.length - (i + 1)) (key.take i ++ [(d : Int)]) (by simp; omega) (fun x hx2 => by
        rcases List.mem_append.1 hx2 with h | h
        · have := hel x (List.mem_of_mem_take h); omega
        · simp at h; omega)
      have hown := c_l01Own (key.take i) (by simp; omega)
      have htk : List.take i (List.map eI key) = List.map eI (key.take i) := List.map_take.symm
      have hmap : List.map eI (key.take i) ++ [eI (d : Int)] = List.map eI (key.take i ++ [(d : Int)]) := by simp
      have hlen : (key.take i).length = i := by simp; omega
      have hb1 := hcl d
      have hb2 := cnt_le m hm (key.length - (i + 1)) (key.take i ++ [(d : Int)])
      have hp : 8 ^ (key.length - (i + 1)) ≤ 8 ^ 5 := Nat.pow_le_pow_right (by decide) (by omega)
      have htl : List.take (i + 1) (List.map eI (key.take i ++ [(d : Int)])) = List.map eI (key.take i ++ [(d : Int)]) := List.take_of_length_le (by simp; omega)
      have htl2 : List.take i (List.map eI (key.take i)) = List.map eI (key.take i) := List.take_of_length_le (by simp; omega)
      rw [cntTo_succ]
      clear hcl hel
      generalize hT : key.take i = T at *
      generalize cntTo m (key.length - (i + 1)) T d = A at *
      generalize cnt m (key.length - (i + 1)) (T ++ [(d : Int)]) = Bn at *
      generalize 8 ^ (key.length - (i + 1)) = p at *
      simp -dsimp -implicitDefEqProofs only [pick_nil, pick_cons, look_nil, look_cons, dropB_nil, dropB_cons, inD_nil, inD_cons, inE_nil, inE_cons, or_t_l, or_f_l, Nat.reduceBEq, Nat.reduceDiv, Nat.reduceAdd, beq_self_eq_true, Bool.false_eq_true, Bool.or_false, ↓reduceIte, Nat.reduceEqDiff, List.cons_append, List.nil_append]
      simp -dsimp -implicitDefEqProofs only [go_sem, ↓reduceIte, Nat.reduceEqDiff, Nat.reduceLT, Nat.reduceAdd, Nat.reduceMul, Nat.reduceLeDiff, Nat.le_refl, Int.natCast_zero, Int.toNat_natCast, Int.reduceToNat, hlt, gi]
      refine ⟨by omega, ?_⟩
      refine Later.draw mixed rfl ?_
      simp -dsimp -implicitDefEqProofs only [go_sem, ↓reduceIte, Nat.reduceEqDiff, Nat.reduceLT, Nat.reduceAdd, Nat.reduceMul, Nat.reduceLeDiff, Nat.le_refl, Int.natCast_zero, Int.toNat_natCast, Int.reduceToNat, htk]
      refine ⟨by omega, ?_⟩
      (refine sCallX_one (hown) ?_; try simp -dsimp -implicitDefEqProofs only [go_sem, ↓reduceIte, Nat.reduceEqDiff, Nat.reduceLT, Nat.reduceAdd, Nat.reduceMul, Nat.reduceLeDiff, Nat.le_refl, Int.natCast_zero, Int.toNat_natCast, Int.reduceToNat, *])
      refine ⟨by omega, ?_⟩
      (refine sCallX_one (hcnt) ?_; try simp -dsimp -implicitDefEqProofs only [go_sem, ↓reduceIte, Nat.reduceEqDiff, Nat.reduceLT, Nat.reduceAdd, Nat.reduceMul, Nat.reduceLeDiff, Nat.le_refl, Int.natCast_zero, Int.toNat_natCast, Int.reduceToNat, *])
      exact ⟨⟨by omega, by omega⟩, by exact rfl, ⟨by omega, by omega⟩, by simp, by simp; omega⟩
    · have hlt : decide (((key[i].toNat : Nat) : Int) < key[i]) = false := decide_eq_false (by omega)
      simp -dsimp -implicitDefEqProofs only [pick_nil, pick_cons, look_nil, look_cons, dropB_nil, dropB_cons, inD_nil, inD_cons, inE_nil, inE_cons, or_t_l, or_f_l, Nat.reduceBEq, Nat.reduceDiv, Nat.reduceAdd, beq_self_eq_true, Bool.false_eq_true, Bool.or_false, ↓reduceIte, Nat.reduceEqDiff, List.cons_append, List.nil_append]
      simp -dsimp -implicitDefEqProofs only [go_sem, ↓reduceIte, Nat.reduceEqDiff, Nat.reduceLT, Nat.reduceAdd, Nat.reduceMul, Nat.reduceLeDiff, Nat.le_refl, Int.natCast_zero, Int.toNat_natCast, Int.reduceToNat, hlt, gi]
      exact ⟨by omega, ⟨by omega, by omega⟩, by simp, by simp⟩
  · simp -dsimp -implicitDefEqProofs only [pick_nil, pick_cons, look_nil, look_cons, dropB_nil, dropB_cons, inD_nil, inD_cons, inE_nil, inE_cons, or_t_l, or_f_l, Nat.reduceBEq, Nat.reduceDiv, Nat.reduceAdd, beq_self_eq_true, Bool.false_eq_true, Bool.or_false, ↓reduceIte, Nat.reduceEqDiff, List.cons_append, List.nil_append]
    simp -dsimp -implicitDefEqProofs only [go_sem, ↓reduceIte, Nat.reduceEqDiff, Nat.reduceLT, Nat.reduceAdd, Nat.reduceMul, Nat.reduceLeDiff, Nat.le_refl, Int.natCast_zero, Int.toNat_natCast, Int.reduceToNat, nlt_len]
theorem c_countKeys (m : MkM) (hm : isMk m = true) : Fn Tryz.prog 49 [eMk m, .val .nilFunc] true (· = eI (cnt m m.chambers.toNat [])) := by
  refine Fn.of_vcN 11 [.tmp 4] Tryz.func49 rfl rfl rfl rfl rfl (of_decide_eq_true rfl) ?_
  have hnum := isMk_num hm
  have h8 : (8 : Int) ^ m.chambers.toNat ≤ 8 ^ 6 := by
    have : 8 ^ m.chambers.toNat ≤ 8 ^ 6 := Nat.pow_le_pow_right (by decide) (by omega)
    exact_mod_cast this
  have hcut := cut_C m hm m.chambers.toNat [] ⟨0, [], 0⟩ (by simp; omega) (fun x hx => by cases hx) ⟨rfl, Nat.le_refl _⟩ ⟨Int.le_refl _, by show (0 : Int) + _ ≤ _; omega⟩
  have hsp := (cutF_spec m cntF m.chambers.toNat [] ⟨0, [], 0⟩ ⟨rfl, Nat.le_refl _⟩).2.1
  rw [visit_cnt] at hsp
  have hc : cnt m m.chambers.toNat [] = (keysFrom m m.chambers.toNat []).length := by rw [cnt, if_pos (show okTo m [] = true from rfl)]
  rw [hc]
  simp only [Int.zero_add] at hsp
  rw [← hsp]
  generalize cutF m cntF m.chambers.toNat [] ⟨0, [], 0⟩ = w at *
  simp -dsimp -implicitDefEqProofs only [go_sem, ↓reduceIte, Nat.reduceEqDiff, Nat.reduceLT, Nat.reduceAdd, Nat.reduceMul, Nat.reduceLeDiff, Nat.le_refl, Int.natCast_zero, Int.toNat_natCast, Int.reduceToNat]
  refine sCallT_inl 900000 16 [] Tryz.func96 rfl rfl rfl rfl rfl (by exact of_decide_eq_true rfl) ?_
  simp -dsimp -implicitDefEqProofs only [go_sem, ↓reduceIte, Nat.reduceEqDiff, Nat.reduceLT, Nat.reduceAdd, Nat.reduceMul, Nat.reduceLeDiff, Nat.le_refl, Int.natCast_zero, Int.toNat_natCast, Int.reduceToNat]
  simp only [List.length_nil, List.map_nil] at hcut
  refine sCallT_HR 1700000000 hcut ⟨?_, ?_⟩ ⟨⟨?_, ?_⟩, ?_, ?_⟩ ?_
  · simp -dsimp -implicitDefEqProofs only [go_sem, ↓reduceIte, Nat.reduceEqDiff, Nat.reduceLT, Nat.reduceAdd, Nat.reduceMul, Nat.reduceLeDiff, Nat.le_refl, Int.natCast_zero, Int.toNat_natCast, Int.reduceToNat]
  · simp -dsimp -implicitDefEqProofs only [go_sem, ↓reduceIte, Nat.reduceEqDiff, Nat.reduceLT, Nat.reduceAdd, Nat.reduceMul, Nat.reduceLeDiff, Nat.le_refl, Int.natCast_zero, Int.toNat_natCast, Int.reduceToNat]
  · simp -dsimp -implicitDefEqProofs only [go_sem, ↓reduceIte, Nat.reduceEqDiff, Nat.reduceLT, Nat.reduceAdd, Nat.reduceMul, Nat.reduceLeDiff, Nat.le_refl, Int.natCast_zero, Int.toNat_natCast, Int.reduceToNat]
  · simp -dsimp -implicitDefEqProofs only [go_sem, ↓reduceIte, Nat.reduceEqDiff, Nat.reduceLT, Nat.reduceAdd, Nat.reduceMul, Nat.reduceLeDiff, Nat.le_refl, Int.natCast_zero, Int.toNat_natCast, Int.reduceToNat]
    simp [labs, labsL, inLs]
  · simp -dsimp -implicitDefEqProofs only [go_sem, ↓reduceIte, Nat.reduceEqDiff, Nat.reduceLT, Nat.reduceAdd, Nat.reduceMul, Nat.reduceLeDiff, Nat.le_refl, Int.natCast_zero, Int.toNat_natCast, Int.reduceToNat]
  · simp -dsimp -implicitDefEqProofs only [go_sem, ↓reduceIte, Nat.reduceEqDiff, Nat.reduceLT, Nat.reduceAdd, Nat.reduceMul, Nat.reduceLeDiff, Nat.le_refl, Int.natCast_zero, Int.toNat_natCast, Int.reduceToNat]
    simp [labs, labsL, inLs]
  · rintro r m' ⟨hr, hm'⟩
    rw [hr, hm']
    simp -dsimp -implicitDefEqProofs only [go_sem, ↓reduceIte, Nat.reduceEqDiff, Nat.reduceLT, Nat.reduceAdd, Nat.reduceMul, Nat.reduceLeDiff, Nat.le_refl, Int.natCast_zero, Int.toNat_natCast, Int.reduceToNat]
theorem c_RankOf (m : MkM) (key : List Int) (h : key.length ≤ 1048576) : Fn Tryz.prog 48 [eMk m, eIs key] true (· = if isMk m = true then if fault m key = 0 then .tup [eI (rankTo m key key.length), eI 0] else .tup [eI 0, eI 2] else .tup [eI 0, eI 1]) := by
  refine Fn.of_vcN 19 [.tmp 4, .tmp 5] Tryz.func48 rfl rfl rfl rfl rfl (of_decide_eq_true rfl) ?_
  have hcode := c_keysCode1 m key h
  have h10 : ((1 : Int) != 0) = true := rfl
  have h20 : ((2 : Int) != 0) = true := rfl
  rcases hm : isMk m with _ | _
  · rw [hm] at hcode
    simp only [Bool.false_eq_true, if_false] at hcode ⊢
    clear hm
    simp -dsimp -implicitDefEqProofs only [go_sem, ↓reduceIte, Nat.reduceEqDiff, Nat.reduceLT, Nat.reduceAdd, Nat.reduceMul, Nat.reduceLeDiff, Nat.le_refl, Int.natCast_zero, Int.toNat_natCast, Int.reduceToNat]
    repeat' (refine sCallT_one (hcode) ?_; try simp -dsimp -implicitDefEqProofs only [go_sem, ↓reduceIte, Nat.reduceEqDiff, Nat.reduceLT, Nat.reduceAdd, Nat.reduceMul, Nat.reduceLeDiff, Nat.le_refl, Int.natCast_zero, Int.toNat_natCast, Int.reduceToNat, *])
  · rw [hm] at hcode
    simp only [if_true] at hcode ⊢
    by_cases hf : fault m key = 0
    · rw [if_pos hf] at hcode ⊢
      have hnum := isMk_num hm
      have h8 : (8 : Int) ^ m.chambers.toNat ≤ 8 ^ 6 := by
        have : 8 ^ m.chambers.toNat ≤ 8 ^ 6 := Nat.pow_le_pow_right (by decide) (by omega)
        exact_mod_cast this
      have hcut := cut_R key h m hm m.chambers.toNat [] ⟨0, [], 0⟩ (by simp; omega) (fun x hx => by cases hx) ⟨rfl, Nat.le_refl _⟩ ⟨Int.le_refl _, by show (0 : Int) + _ ≤ _; omega⟩
      have hsp := (cutF_spec m (rankF key) m.chambers.toNat [] ⟨0, [], 0⟩ ⟨rfl, Nat.le_refl _⟩).2.1
      have hsp2 := hsp.trans (rank_of hf).1
      rw [← hsp2]
      clear hsp hsp2
      generalize cutF m (rankF key) m.chambers.toNat [] ⟨0, [], 0⟩ = w at *
      simp only [List.length_nil, List.map_nil] at hcut
      clear hm hf h8 hnum
      simp -dsimp -implicitDefEqProofs only [go_sem, ↓reduceIte, Nat.reduceEqDiff, Nat.reduceLT, Nat.reduceAdd, Nat.reduceMul, Nat.reduceLeDiff, Nat.le_refl, Int.natCast_zero, Int.toNat_natCast, Int.reduceToNat]
      repeat' (refine sCallT_one (hcode) ?_; try simp -dsimp -implicitDefEqProofs only [go_sem, ↓reduceIte, Nat.reduceEqDiff, Nat.reduceLT, Nat.reduceAdd, Nat.reduceMul, Nat.reduceLeDiff, Nat.le_refl, Int.natCast_zero, Int.toNat_natCast, Int.reduceToNat, *])
      refine sCallT_inl 900000 16 [] Tryz.func96 rfl rfl rfl rfl rfl (by exact of_decide_eq_true rfl) ?_
      simp -dsimp -implicitDefEqProofs only [go_sem, ↓reduceIte, Nat.reduceEqDiff, Nat.reduceLT, Nat.reduceAdd, Nat.reduceMul, Nat.reduceLeDiff, Nat.le_refl, Int.natCast_zero, Int.toNat_natCast, Int.reduceToNat]
      refine sCallT_HR 1700000000 hcut ⟨?_, ?_⟩ ⟨⟨?_, ?_⟩, ?_, ?_⟩ ?_
      · simp -dsimp -implicitDefEqProofs only [go_sem, ↓reduceIte, Nat.reduceEqDiff, Nat.reduceLT, Nat.reduceAdd, Nat.reduceMul, Nat.reduceLeDiff, Nat.le_refl, Int.natCast_zero, Int.toNat_natCast, Int.reduceToNat]
      · simp -dsimp -implicitDefEqProofs only [go_sem, ↓reduceIte, Nat.reduceEqDiff, Nat.reduceLT, Nat.reduceAdd, Nat.reduceMul, Nat.reduceLeDiff, Nat.le_refl, Int.natCast_zero, Int.toNat_natCast, Int.reduceToNat]
      · simp -dsimp -implicitDefEqProofs only [go_sem, ↓reduceIte, Nat.reduceEqDiff, Nat.reduceLT, Nat.reduceAdd, Nat.reduceMul, Nat.reduceLeDiff, Nat.le_refl, Int.natCast_zero, Int.toNat_natCast, Int.reduceToNat]
      · simp -dsimp -implicitDefEqProofs only [go_sem, ↓reduceIte, Nat.reduceEqDiff, Nat.reduceLT, Nat.reduceAdd, Nat.reduceMul, Nat.reduceLeDiff, Nat.le_refl, Int.natCast_zero, Int.toNat_natCast, Int.reduceToNat]
        simp [labs, labsL, inLs]
      · simp -dsimp -implicitDefEqProofs only [go_sem, ↓reduceIte, Nat.reduceEqDiff, Nat.reduceLT, Nat.reduceAdd, Nat.reduceMul, Nat.reduceLeDiff, Nat.le_refl, Int.natCast_zero, Int.toNat_natCast, Int.reduceToNat]
      · simp -dsimp -implicitDefEqProofs only [go_sem, ↓reduceIte, Nat.reduceEqDiff, Nat.reduceLT, Nat.reduceAdd, Nat.reduceMul, Nat.reduceLeDiff, Nat.le_refl, Int.natCast_zero, Int.toNat_natCast, Int.reduceToNat]
        simp [labs, labsL, inLs]
      · rintro r m' ⟨hr, hm'⟩
        rw [hr, hm']
        simp -dsimp -implicitDefEqProofs only [go_sem, ↓reduceIte, Nat.reduceEqDiff, Nat.reduceLT, Nat.reduceAdd, Nat.reduceMul, Nat.reduceLeDiff, Nat.le_refl, Int.natCast_zero, Int.toNat_natCast, Int.reduceToNat]
    · rw [if_neg hf] at hcode ⊢
      clear hm hf
      simp -dsimp -implicitDefEqProofs only [go_sem, ↓reduceIte, Nat.reduceEqDiff, Nat.reduceLT, Nat.reduceAdd, Nat.reduceMul, Nat.reduceLeDiff, Nat.le_refl, Int.natCast_zero, Int.toNat_natCast, Int.reduceToNat]
      repeat' (refine sCallT_one (hcode) ?_; try simp -dsimp -implicitDefEqProofs only [go_sem, ↓reduceIte, Nat.reduceEqDiff, Nat.reduceLT, Nat.reduceAdd, Nat.reduceMul, Nat.reduceLeDiff, Nat.le_refl, Int.natCast_zero, Int.toNat_natCast, Int.reduceToNat, *])
end Go.Vc


/-
  Contracts: numbers as texts, and back; the parts of a text.
-/
set_option linter.unusedVariables false
set_option linter.unusedSimpArgs false
set_option linter.unnecessarySimpa false
namespace Go.Vc
open Go.Proofs Go.Lib
set_option maxRecDepth 100000
attribute [go_sem] Option.map_none Nat.sub_zero List.take_length List.size_toArray ba_append ba_size ba_list ba_extract ba_data
theorem str_beq (a b : List UInt8) : (a == b) = decide (a = b) := by
  by_cases h : a = b
  · simp [h]
  · simp [h]
attribute [go_sem] str_beq
theorem u8_wrap {x : Int} (h : 0 ≤ x ∧ x < 256) : IntKind.u8.wrap x = x := by
  simp [IntKind.wrap, IntKind.bits, IntKind.signed]
  omega
theorem dec_low {n : Nat} (h : n < 10) : decDigits n = [UInt8.ofNat (48 + n)] := decDigits_one h
theorem dec_high {n : Nat} (h : ¬ n < 10) : decDigits n = decDigits (n / 10) ++ [UInt8.ofNat (48 + n % 10)] := by rw [decDigits, dif_neg h]
theorem dec_length_le {n : Nat} (h : n < 18446744073709551616) : (decDigits n).length ≤ 20 := by
  rw [decDigits_length]; exact nDigits_le20 n h
theorem c_l01Dec : ∀ (n : Nat), n ≤ 1000000000000000000 → Fn Tryz.prog 110 [eI n] true (· = eS (decDigits n)) := by
  intro n
  induction n using Nat.strongRecOn with
  | _ n ih =>
    intro hn
    refine Fn.of_vcN 20 [.tmp 2] Tryz.func110 rfl rfl rfl rfl rfl (of_decide_eq_true rfl) ?_
    simp -dsimp -implicitDefEqProofs only [go_sem, ↓reduceIte, Nat.reduceEqDiff, Nat.reduceLT, Nat.reduceAdd, Nat.reduceMul, Nat.reduceLeDiff, Nat.le_refl, Int.natCast_zero, Int.toNat_natCast, Int.reduceToNat]
    by_cases h : n < 10
    · have hd : decide ((n : Int) < 10) = true := decide_eq_true (by omega)
      have hw : IntKind.u8.wrap (48 + (n : Int)) = 48 + (n : Int) := u8_wrap (by omega)
      have ht : (48 + (n : Int)).toNat = 48 + n := by omega
      rw [dec_low h]
      simp -dsimp -implicitDefEqProofs only [go_sem, ↓reduceIte, Nat.reduceEqDiff, Nat.reduceLT, Nat.reduceAdd, Nat.reduceMul, Nat.reduceLeDiff, Nat.le_refl, Int.natCast_zero, Int.toNat_natCast, Int.reduceToNat, hd, hw, ht]
      repeat' (with_reducible refine And.intro ?_ ?_)
      all_goals first | omega | (refine ⟨?_, ?_⟩ <;> omega) | (exact rfl) | (simp; done) | trace_state
    · have hd : decide ((n : Int) < 10) = false := decide_eq_false (by omega)
      have hq : (n : Int).tdiv 10 = ((n / 10 : Nat) : Int) := by rw [Int.tdiv_eq_ediv_of_nonneg (by omega)]; omega
      have hr : (n : Int).tmod 10 = ((n % 10 : Nat) : Int) := by rw [Int.tmod_eq_emod_of_nonneg (by omega)]; omega
      have hw : IntKind.u8.wrap (48 + ((n % 10 : Nat) : Int)) = 48 + ((n % 10 : Nat) : Int) := u8_wrap (by omega)
      have ht : (48 + ((n % 10 : Nat) : Int)).toNat = 48 + n % 10 := by omega
      have hl := dec_length_le (n := n / 10) (by omega)
      have hc := ih (n / 10) (by omega) (by omega)
      rw [dec_high h]
      simp -dsimp -implicitDefEqProofs only [go_sem, ↓reduceIte, Nat.reduceEqDiff, Nat.reduceLT, Nat.reduceAdd, Nat.reduceMul, Nat.reduceLeDiff, Nat.le_refl, Int.natCast_zero, Int.toNat_natCast, Int.reduceToNat, hd]
      refine Later.draw mixed rfl ?_
      simp -dsimp -implicitDefEqProofs only [go_sem, ↓reduceIte, Nat.reduceEqDiff, Nat.reduceLT, Nat.reduceAdd, Nat.reduceMul, Nat.reduceLeDiff, Nat.le_refl, Int.natCast_zero, Int.toNat_natCast, Int.reduceToNat, hq, hr]
      repeat' (with_reducible refine And.intro ?_ ?_)
      all_goals try (first | omega | (refine ⟨?_, ?_⟩ <;> omega) | (exact rfl) | (simp; done))
      refine sCallX_one hc ?_
      have hz : n % 10 < 10 := Nat.mod_lt _ (by decide)
      generalize n % 10 = z at *
      simp -dsimp -implicitDefEqProofs only [go_sem, ↓reduceIte, Nat.reduceEqDiff, Nat.reduceLT, Nat.reduceAdd, Nat.reduceMul, Nat.reduceLeDiff, Nat.le_refl, Int.natCast_zero, Int.toNat_natCast, Int.reduceToNat, hr, hw, ht]
      repeat' (with_reducible refine And.intro ?_ ?_)
      all_goals first | omega | (refine ⟨?_, ?_⟩ <;> omega) | (exact rfl) | (simp; done) | trace_state
theorem c_l01DecI (n : Int) (h : 0 ≤ n ∧ n ≤ 1000000000000000000) : Fn Tryz.prog 110 [eI n] true (· = eS (itoa n)) := by
  have := c_l01Dec n.toNat (by omega)
  rw [show ((n.toNat : Nat) : Int) = n by omega] at this
  rw [itoa_of_nonneg h.1]; exact this
theorem c_text {n : Int} (h : I64 n) : Fn Tryz.prog 63 [eI n] true (· = eS (itoa n)) := by
  refine Fn.of_vcN 5 [.tmp 2] Tryz.func63 rfl rfl rfl rfl rfl (of_decide_eq_true rfl) ?_
  simp -dsimp -implicitDefEqProofs only [go_sem, ↓reduceIte, Nat.reduceEqDiff, Nat.reduceLT, Nat.reduceAdd, Nat.reduceMul, Nat.reduceLeDiff, Nat.le_refl, Int.natCast_zero, Int.toNat_natCast, Int.reduceToNat]
  refine sCallT_one (c_FormatInt h) ?_
  simp -dsimp -implicitDefEqProofs only [go_sem, ↓reduceIte, Nat.reduceEqDiff, Nat.reduceLT, Nat.reduceAdd, Nat.reduceMul, Nat.reduceLeDiff, Nat.le_refl, Int.natCast_zero, Int.toNat_natCast, Int.reduceToNat]
end Go.Vc


/-
  Contracts: texts that are damaged.
-/
set_option linter.unusedVariables false
set_option linter.unusedSimpArgs false
set_option linter.unnecessarySimpa false
namespace Go.Vc
open Go.Proofs
set_option maxRecDepth 100000
def dmgW (i : Int) : List UInt8 := ([[48], [35], [46], [47], [32], [97], [45], [10]] : List (List UInt8)).getD i.toNat []
theorem dmgW_len (i : Int) : (dmgW i).length ≤ 1 := by
  unfold dmgW
  rcases Nat.lt_or_ge i.toNat 8 with h | h
  · match i.toNat, h with
    | 0, _ => decide
    | 1, _ => decide
    | 2, _ => decide
    | 3, _ => decide
    | 4, _ => decide
    | 5, _ => decide
    | 6, _ => decide
    | 7, _ => decide
  · rw [List.getD_eq_getElem?_getD, List.getElem?_eq_none (by simpa using h)]; simp
def dmg (bs : List UInt8) (t : List UInt8) (a : Int × Src) (b : Int × Src) : List UInt8 × Src :=
  if b.1 = 0 then (t.take a.1.toNat, b.2)
  else if b.1 = 1 then (t.take a.1.toNat ++ dmgW (nx bs 8 b.2).1 ++ t.drop a.1.toNat, (nx bs 8 b.2).2)
  else if b.1 = 2 ∧ a.1 < t.length then (t.take a.1.toNat ++ t.drop (a.1.toNat + 1), b.2)
  else (t, b.2)
def damage (bs : List UInt8) (t : List UInt8) (s : Src) : List UInt8 × Src := dmg bs t (nx bs ((t.length : Int) + 1) s) (nx bs 8 (nx bs ((t.length : Int) + 1) s).2)
theorem nx_in (bs t : List UInt8) {s : Src} (h : SrcOk s) : 0 ≤ (nx bs ((t.length : Int) + 1) s).1 ∧ (nx bs ((t.length : Int) + 1) s).1 ≤ t.length := by
  have h1 := nx_ok bs ((t.length : Int) + 1) h
  refine ⟨h1.1, ?_⟩
  by_cases hz : (t.length : Int) + 1 ≤ 1
  · rw [h1.2.1 hz]; omega
  · have := h1.2.2.1 (by omega); omega
theorem damage_ok (bs t : List UInt8) {s : Src} (h : SrcOk s) : SrcOk (damage bs t s).2 ∧ (damage bs t s).1.length ≤ t.length + 1 := by
  have h1 := nx_in bs t h
  have o1 := (nx_ok bs ((t.length : Int) + 1) h).2.2.2
  unfold damage
  generalize nx bs ((t.length : Int) + 1) s = a at *
  have o2 := (nx_ok bs 8 o1).2.2.2
  generalize nx bs 8 a.2 = b at *
  have o3 := (nx_ok bs 8 o2).2.2.2
  have hw := dmgW_len (nx bs 8 b.2).1
  unfold dmg
  split
  · exact ⟨o2, by simp; omega⟩
  · split
    · exact ⟨o3, by simp; omega⟩
    · split
      · exact ⟨o2, by simp; omega⟩
      · exact ⟨o2, by dsimp only; omega⟩
set_option maxHeartbeats 8000000 in
theorem c_l01Damage (v : Nat) (bs t : List UInt8) (s : Src) (h : SrcOk s) (hl : bs.length ≤ 4096) (ht : t.length ≤ 1000000) :
    FnM Tryz.prog 78 [srcB v bs s] [.ptr 1000000000 v 0 0, eS t] (fun x io => x = eS (damage bs t s).1 ∧ io = [srcB v bs (damage bs t s).2]) := by
  refine FnM.of_vc 48 [.tmp 4] Tryz.func78 rfl rfl rfl rfl rfl (of_decide_eq_true rfl) ?_
  obtain ⟨res, hr⟩ : ∃ res, damage bs t s = res := ⟨_, rfl⟩
  rw [hr]
  unfold damage dmg at hr
  have h1 := nx_ok bs ((t.length : Int) + 1) h
  have c1 := fun v => c_l01Next v bs ((t.length : Int) + 1) s h hl
  have hk : 0 ≤ (nx bs ((t.length : Int) + 1) s).1 ∧ (nx bs ((t.length : Int) + 1) s).1 ≤ t.length := by
    refine ⟨h1.1, ?_⟩
    by_cases hz : (t.length : Int) + 1 ≤ 1
    · rw [h1.2.1 hz]; omega
    · have := h1.2.2.1 (by omega); omega
  have o1 := h1.2.2.2
  clear h1
  generalize nx bs ((t.length : Int) + 1) s = a at *
  have h2 := nx_ok bs 8 o1
  have c2 := fun v => c_l01Next v bs 8 a.2 o1 hl
  generalize nx bs 8 a.2 = b at *
  have o2 := h2.2.2.2
  clear h2
  obtain ⟨n, hn⟩ : ∃ n : Nat, a.1 = n := ⟨a.1.toNat, by omega⟩
  rw [hn] at hk c1 hr
  rw [Int.toNat_natCast] at hr
  have hk1 : n ≤ t.length := by omega
  simp -dsimp -implicitDefEqProofs only [go_sem, ↓reduceIte, Nat.reduceEqDiff, Nat.reduceLT, Nat.reduceAdd, Nat.reduceMul, Nat.reduceLeDiff, Nat.le_refl, Int.natCast_zero, Int.toNat_natCast, Int.reduceToNat]
  repeat' (with_reducible refine And.intro ?_ ?_)
  all_goals try (first | omega | (refine ⟨?_, ?_⟩ <;> omega) | (exact rfl) | (simp; done))
  (refine sCallT_io [1000000000] ?_; simp -dsimp -implicitDefEqProofs only [go_sem, ↓reduceIte, Nat.reduceEqDiff, Nat.reduceLT, Nat.reduceAdd, Nat.reduceMul, Nat.reduceLeDiff, Nat.le_refl, Int.natCast_zero, Int.toNat_natCast, Int.reduceToNat]; refine sCallM_one (c1 _) ?_; simp -dsimp -implicitDefEqProofs only [go_sem, ↓reduceIte, Nat.reduceEqDiff, Nat.reduceLT, Nat.reduceAdd, Nat.reduceMul, Nat.reduceLeDiff, Nat.le_refl, Int.natCast_zero, Int.toNat_natCast, Int.reduceToNat])
  (refine sCallT_io [1000000000] ?_; simp -dsimp -implicitDefEqProofs only [go_sem, ↓reduceIte, Nat.reduceEqDiff, Nat.reduceLT, Nat.reduceAdd, Nat.reduceMul, Nat.reduceLeDiff, Nat.le_refl, Int.natCast_zero, Int.toNat_natCast, Int.reduceToNat]; refine sCallM_one (c2 _) ?_; simp -dsimp -implicitDefEqProofs only [go_sem, ↓reduceIte, Nat.reduceEqDiff, Nat.reduceLT, Nat.reduceAdd, Nat.reduceMul, Nat.reduceLeDiff, Nat.le_refl, Int.natCast_zero, Int.toNat_natCast, Int.reduceToNat])
  rcases hb0 : (b.1 == 0) with _ | _
  · rw [if_neg (by simpa using hb0)] at hr
    simp -dsimp -implicitDefEqProofs only [go_sem, ↓reduceIte, Nat.reduceEqDiff, Nat.reduceLT, Nat.reduceAdd, Nat.reduceMul, Nat.reduceLeDiff, Nat.le_refl, Int.natCast_zero, Int.toNat_natCast, Int.reduceToNat, hb0]
    rcases hb1 : (b.1 == 1) with _ | _
    · rw [if_neg (by simpa using hb1)] at hr
      simp -dsimp -implicitDefEqProofs only [go_sem, ↓reduceIte, Nat.reduceEqDiff, Nat.reduceLT, Nat.reduceAdd, Nat.reduceMul, Nat.reduceLeDiff, Nat.le_refl, Int.natCast_zero, Int.toNat_natCast, Int.reduceToNat, hb1]
      rcases hb2 : (b.1 == 2) with _ | _
      · rw [if_neg (by have : b.1 ≠ 2 := by simpa using hb2
                       exact fun h => this h.1)] at hr
        subst hr
        simp -dsimp -implicitDefEqProofs only [go_sem, ↓reduceIte, Nat.reduceEqDiff, Nat.reduceLT, Nat.reduceAdd, Nat.reduceMul, Nat.reduceLeDiff, Nat.le_refl, Int.natCast_zero, Int.toNat_natCast, Int.reduceToNat, hb2]
        all_goals try exact ⟨rfl, rfl⟩
      · rcases hlt : decide ((n : Int) < (t.length : Int)) with _ | _
        · rw [if_neg (fun h => of_decide_eq_false hlt h.2)] at hr
          subst hr
          simp -dsimp -implicitDefEqProofs only [go_sem, ↓reduceIte, Nat.reduceEqDiff, Nat.reduceLT, Nat.reduceAdd, Nat.reduceMul, Nat.reduceLeDiff, Nat.le_refl, Int.natCast_zero, Int.toNat_natCast, Int.reduceToNat, hb2, hlt]
          all_goals try exact ⟨rfl, rfl⟩
        · have hlt2 := of_decide_eq_true hlt
          rw [if_pos ⟨by simpa using hb2, hlt2⟩] at hr
          subst hr
          have e1 : ((n : Int) + 1).toNat = n + 1 := by omega
          simp -dsimp -implicitDefEqProofs only [go_sem, ↓reduceIte, Nat.reduceEqDiff, Nat.reduceLT, Nat.reduceAdd, Nat.reduceMul, Nat.reduceLeDiff, Nat.le_refl, Int.natCast_zero, Int.toNat_natCast, Int.reduceToNat, hb2, hlt]
          refine Later.draw mixed rfl ?_
          simp -dsimp -implicitDefEqProofs only [go_sem, ↓reduceIte, Nat.reduceEqDiff, Nat.reduceLT, Nat.reduceAdd, Nat.reduceMul, Nat.reduceLeDiff, Nat.le_refl, Int.natCast_zero, Int.toNat_natCast, Int.reduceToNat, e1]
          repeat' (with_reducible refine And.intro ?_ ?_)
          all_goals try first | (first | omega | (refine ⟨?_, ?_⟩ <;> omega) | (exact rfl) | (simp; done)) | (simp; omega)
          all_goals try first | exact ⟨by first | rfl | simp, rfl⟩ | (exact rfl) | (simp; done)
    · rw [if_pos (by simpa using hb1)] at hr
      simp -dsimp -implicitDefEqProofs only [go_sem, ↓reduceIte, Nat.reduceEqDiff, Nat.reduceLT, Nat.reduceAdd, Nat.reduceMul, Nat.reduceLeDiff, Nat.le_refl, Int.natCast_zero, Int.toNat_natCast, Int.reduceToNat, hb1]
      have h3 := nx_ok bs 8 o2
      have c3 := fun v => c_l01Next v bs 8 b.2 o2 hl
      generalize nx bs 8 b.2 = d at *
      have o3 := h3.2.2.2
      have d1 := h3.1
      have d2 := h3.2.2.1 (by omega)
      clear h3
      refine Later.draw mixed rfl ?_
      simp -dsimp -implicitDefEqProofs only [go_sem, ↓reduceIte, Nat.reduceEqDiff, Nat.reduceLT, Nat.reduceAdd, Nat.reduceMul, Nat.reduceLeDiff, Nat.le_refl, Int.natCast_zero, Int.toNat_natCast, Int.reduceToNat]
      repeat' (with_reducible refine And.intro ?_ ?_)
      all_goals try (first | omega | (refine ⟨?_, ?_⟩ <;> omega) | (exact rfl) | (simp; done))
      (refine sCallX_io [1000000000] rfl ?_; simp -dsimp -implicitDefEqProofs only [go_sem, ↓reduceIte, Nat.reduceEqDiff, Nat.reduceLT, Nat.reduceAdd, Nat.reduceMul, Nat.reduceLeDiff, Nat.le_refl, Int.natCast_zero, Int.toNat_natCast, Int.reduceToNat]; refine sCallMX_one (c3 _) ?_; simp -dsimp -implicitDefEqProofs only [go_sem, ↓reduceIte, Nat.reduceEqDiff, Nat.reduceLT, Nat.reduceAdd, Nat.reduceMul, Nat.reduceLeDiff, Nat.le_refl, Int.natCast_zero, Int.toNat_natCast, Int.reduceToNat])
      repeat' (with_reducible refine And.intro ?_ ?_)
      all_goals try (first | omega | (refine ⟨?_, ?_⟩ <;> omega) | (exact rfl) | (simp; done))
      subst hr
      have hwl := dmgW_len d.1
      have hw : ∀ i, i < 8 → ([AV.val (.string ⟨#[48]⟩), AV.val (.string ⟨#[35]⟩), AV.val (.string ⟨#[46]⟩), AV.val (.string ⟨#[47]⟩), AV.val (.string ⟨#[32]⟩), AV.val (.string ⟨#[97]⟩), AV.val (.string ⟨#[45]⟩), AV.val (.string ⟨#[10]⟩)] : List AV)[i]? = some (eS (([[48], [35], [46], [47], [32], [97], [45], [10]] : List (List UInt8)).getD i [])) := fun i hi => by
        match i, hi with
        | 0, _ => rfl
        | 1, _ => rfl
        | 2, _ => rfl
        | 3, _ => rfl
        | 4, _ => rfl
        | 5, _ => rfl
        | 6, _ => rfl
        | 7, _ => rfl
      have w2 := hw d.1.toNat (by omega)
      clear hw
      change _ = some (eS (dmgW d.1)) at w2
      generalize dmgW d.1 = w at *
      simp -dsimp -implicitDefEqProofs only [go_sem, ↓reduceIte, Nat.reduceEqDiff, Nat.reduceLT, Nat.reduceAdd, Nat.reduceMul, Nat.reduceLeDiff, Nat.le_refl, Int.natCast_zero, Int.toNat_natCast, Int.reduceToNat, w2]
      repeat' (with_reducible refine And.intro ?_ ?_)
      all_goals try first | (first | omega | (refine ⟨?_, ?_⟩ <;> omega) | (exact rfl) | (simp; done)) | (simp; omega)
      all_goals try first | exact ⟨by first | rfl | simp, rfl⟩ | (exact rfl) | (simp; done)
  · rw [if_pos (by simpa using hb0)] at hr
    subst hr
    simp -dsimp -implicitDefEqProofs only [go_sem, ↓reduceIte, Nat.reduceEqDiff, Nat.reduceLT, Nat.reduceAdd, Nat.reduceMul, Nat.reduceLeDiff, Nat.le_refl, Int.natCast_zero, Int.toNat_natCast, Int.reduceToNat, hb0]
    repeat' (with_reducible refine And.intro ?_ ?_)
    all_goals try first | (first | omega | (refine ⟨?_, ?_⟩ <;> omega) | (exact rfl) | (simp; done)) | (simp; omega)
end Go.Vc


/-
  Stamps: their texts, and how they are read.
-/
set_option linter.unusedVariables false
set_option linter.unusedSimpArgs false
set_option linter.unnecessarySimpa false
namespace Go.Vc
open Go.Proofs Go.Lib
set_option maxRecDepth 100000
set_option maxHeartbeats 2000000
/- ---- plain -/
def padS (w : Nat) (s : List UInt8) : List UInt8 := List.replicate (w - s.length) 48 ++ s
def chk (series n : Int) : Int := (100 * n + series).tmod 97
def stampS (w : Nat) (series n : Int) : List UInt8 := [UInt8.ofNat (65 + series).toNat] ++ padS w (itoa n) ++ [45] ++ padS 2 (itoa (chk series n))
def dsum (s : List UInt8) : Nat → Int
  | 0 => 0
  | i + 1 => dsum s i * 10 + ((s.getD (i + 1) 0).toNat : Int) - 48
theorem dsum_bound (s : List UInt8) : ∀ i, -(29 * 10 ^ i - 29) ≤ dsum s i ∧ dsum s i ≤ 29 * 10 ^ i - 29
  | 0 => by simp [dsum]
  | i + 1 => by
    have ih := dsum_bound s i
    have hb := (s.getD (i + 1) 0).toNat_lt
    have e : (10 : Int) ^ (i + 1) = 10 * 10 ^ i := by rw [Int.pow_succ, Int.mul_comm]
    simp only [dsum]
    rw [e]
    generalize (s.getD (i + 1) 0).toNat = x at *
    generalize (10 : Int) ^ i = p at *
    omega
def readI (K : Int) (s : List UInt8) : Int × Int × Bool :=
  if s.length = (itoa K).length + 4 then
    if isIn ((s.getD 0 0).toNat - 65) 0 25 = true ∧ isIn (dsum s (itoa K).length) 0 (K - 1) = true ∧ stampS (itoa K).length ((s.getD 0 0).toNat - 65) (dsum s (itoa K).length) = s then ((s.getD 0 0).toNat - 65, dsum s (itoa K).length, true) else (0, 0, false)
  else (0, 0, false)
def isDg (b : UInt8) : Bool := decide (48 ≤ b.toNat) && decide (b.toNat ≤ 57)
def dgs (s : List UInt8) (w : Nat) : Bool := (List.range w).all fun i => isDg (s.getD (i + 1) 0)
def readS (K : Int) (s : List UInt8) : Int × Int × Bool :=
  if s.length = (itoa K).length + 4 ∧ 65 ≤ (s.getD 0 0).toNat ∧ (s.getD 0 0).toNat ≤ 90 ∧ dgs s (itoa K).length = true then
    ((s.getD 0 0).toNat - 65, dsum s (itoa K).length, decide (dsum s (itoa K).length < K) && decide (stampS (itoa K).length ((s.getD 0 0).toNat - 65) (dsum s (itoa K).length) = s))
  else (0, 0, false)
theorem dec_len_le : ∀ (k n : Nat), n < 10 ^ (k + 1) → (decDigits n).length ≤ k + 1
  | 0, n, h => by rw [dec_low (by simpa using h)]; simp
  | k + 1, n, h => by
    by_cases hn : n < 10
    · rw [dec_low hn]; simp
    · rw [dec_high hn, List.length_append]
      have := dec_len_le k (n / 10) (by rw [Nat.pow_succ] at h; omega)
      simp; omega
theorem dec_mono : ∀ (n m : Nat), m ≤ n → (decDigits m).length ≤ (decDigits n).length := by
  intro n
  induction n using Nat.strongRecOn with
  | _ n ih =>
    intro m h
    by_cases hm : m < 10
    · rw [dec_low hm]
      by_cases hn : n < 10
      · rw [dec_low hn]; simp
      · rw [dec_high hn]; simp
    · rw [dec_high hm, dec_high (show ¬ n < 10 by omega)]
      have := ih (n / 10) (by omega) (m / 10) (by omega)
      simp; omega
theorem itoa_mono {m n : Int} (h0 : 0 ≤ m) (h : m ≤ n) : (itoa m).length ≤ (itoa n).length := by
  rw [itoa_of_nonneg h0, itoa_of_nonneg (by omega)]
  exact dec_mono _ _ (by omega)
theorem dec_dg : ∀ (n : Nat) (b : UInt8), b ∈ decDigits n → isDg b = true := by
  intro n
  induction n using Nat.strongRecOn with
  | _ n ih =>
    have one : ∀ k, k < 10 → isDg (UInt8.ofNat (48 + k)) = true := by
      intro k hk
      have : (UInt8.ofNat (48 + k)).toNat = 48 + k := by simp; omega
      unfold isDg; rw [this]; simp; omega
    intro b hb
    by_cases hn : n < 10
    · rw [dec_low hn] at hb
      rw [List.mem_singleton.1 hb]; exact one n hn
    · rw [dec_high hn] at hb
      rcases List.mem_append.1 hb with h | h
      · exact ih (n / 10) (by omega) b h
      · rw [List.mem_singleton.1 h]; exact one _ (Nat.mod_lt n (by decide))
theorem pad_dg {w : Nat} {n : Int} (h : 0 ≤ n) (hw : (itoa n).length ≤ w) : (padS w (itoa n)).length = w ∧ ∀ b, b ∈ padS w (itoa n) → isDg b = true := by
  refine ⟨by simp [padS]; omega, fun b hb => ?_⟩
  rcases List.mem_append.1 hb with h1 | h1
  · rw [(List.mem_replicate.1 h1).2]; rfl
  · rw [itoa_of_nonneg h] at h1
    exact dec_dg _ b h1
theorem stamp_dgs {w : Nat} {se n : Int} (h : 0 ≤ n) (hw : (itoa n).length ≤ w) : dgs (stampS w se n) w = true := by
  obtain ⟨h1, h2⟩ := pad_dg h hw
  unfold dgs
  rw [List.all_eq_true]
  intro i hi
  have hi := List.mem_range.1 hi
  have e : (stampS w se n).getD (i + 1) 0 = (padS w (itoa n))[i]'(by omega) := by
    unfold stampS
    simp only [List.getD_eq_getElem?_getD, List.append_assoc, List.cons_append, List.nil_append, List.getElem?_cons_succ]
    rw [List.getElem?_append_left (by omega), List.getElem?_eq_getElem (by omega)]
    rfl
  rw [e]
  exact h2 _ (List.getElem_mem _)
theorem dsum_nonneg {s : List UInt8} {w : Nat} (h : dgs s w = true) : ∀ i, i ≤ w → 0 ≤ dsum s i
  | 0, _ => Int.le_refl _
  | i + 1, hi => by
    have ih := dsum_nonneg h i (by omega)
    have := List.all_eq_true.1 h i (List.mem_range.2 (by omega))
    unfold isDg at this
    simp only [Bool.and_eq_true, decide_eq_true_eq] at this
    simp only [dsum]
    omega
theorem read_same (K : Int) (s : List UInt8) : (readI K s).2.2 = (readS K s).2.2 ∧ ((readI K s).2.2 = true → (readI K s).2.1 = (readS K s).2.1) := by
  unfold readI readS
  by_cases hl : s.length = (itoa K).length + 4
  · rw [if_pos hl]
    have hse : isIn (((s.getD 0 0).toNat : Int) - 65) 0 25 = true ↔ 65 ≤ (s.getD 0 0).toNat ∧ (s.getD 0 0).toNat ≤ 90 := by simp [isIn]; omega
    by_cases hI : isIn (((s.getD 0 0).toNat : Int) - 65) 0 25 = true ∧ isIn (dsum s (itoa K).length) 0 (K - 1) = true ∧ stampS (itoa K).length ((s.getD 0 0).toNat - 65) (dsum s (itoa K).length) = s
    · rw [if_pos hI]
      obtain ⟨h1, h2, h3⟩ := hI
      have h2' : 0 ≤ dsum s (itoa K).length ∧ dsum s (itoa K).length < K := by simp [isIn] at h2; omega
      have hd : dgs s (itoa K).length = true := by
        have := stamp_dgs (w := (itoa K).length) (se := (s.getD 0 0).toNat - 65) h2'.1 (itoa_mono h2'.1 (by omega))
        rwa [h3] at this
      rw [if_pos ⟨hl, (hse.1 h1).1, (hse.1 h1).2, hd⟩]
      exact ⟨by rw [decide_eq_true h2'.2, decide_eq_true h3]; rfl, fun _ => rfl⟩
    · rw [if_neg hI]
      refine ⟨?_, fun h => by cases h⟩
      split
      · rename_i hS
        obtain ⟨_, a1, a2, a3⟩ := hS
        have h0 := dsum_nonneg a3 _ (Nat.le_refl _)
        symm
        rw [Bool.and_eq_false_iff]
        by_cases hK : dsum s (itoa K).length < K
        · right
          refine decide_eq_false fun h3 => hI ⟨hse.2 ⟨a1, a2⟩, ?_, h3⟩
          simp [isIn]; omega
        · left; exact decide_eq_false hK
      · rfl
  · rw [if_neg hl, if_neg fun h => hl h.1]
    exact ⟨rfl, fun h => by cases h⟩
theorem i32_wrap {x : Int} (h : 0 ≤ x ∧ x < 256) : IntKind.i32.wrap x = x := by
  simp [IntKind.wrap, IntKind.bits, IntKind.signed]
  omega
/- ---- contracts -/
theorem repeat_48 : ∀ k, Lib.repeatL [48] k = List.replicate k 48
  | 0 => rfl
  | k + 1 => by rw [Lib.repeatL, repeat_48 k, List.replicate_succ]; rfl
theorem c_Repeat0 (k : Nat) (h : k ≤ 1000000) : Fn Tryz.prog 129 [eS [48], eI k] true (· = eS (List.replicate k 48)) := by
  refine Fn.plain [.string ⟨[48].toArray⟩, .int .i64 k] ⟨Tryz.f129, _, Tryz.func129, by decide, rfl⟩ fun w S hk => ?_
  refine (Any.strings_Repeat Tryz.layRepeat Tryz.extraRepeat ⟨[48].toArray⟩ k w (by omega) (by simp [ba_size]; omega)).mono ?_
  rintro e w' ⟨rfl, hb⟩
  rw [ba_data, repeat_48]
  exact ⟨_, [], rfl, Grown.of_below hb, ownVal rfl, List.nodup_nil, fun b hb => by cases hb⟩
theorem c_digitsText (n : Int) (w : Nat) (hn : 0 ≤ n ∧ n ≤ 1000000) (hw : w ≤ 1000) : Fn Tryz.prog 100 [eI n, eI w] true (· = eS (padS w (itoa n))) := by
  refine Fn.of_vcN 16 [.tmp 4] Tryz.func100 rfl rfl rfl rfl rfl (of_decide_eq_true rfl) ?_
  have ht := c_text (n := n) ⟨by omega, by omega⟩
  have hl := itoa_len (v := n) ⟨by omega, by omega⟩
  have hmx : (if (w : Int) - ((itoa n).length : Int) > 0 then (w : Int) - ((itoa n).length : Int) else 0) = ((w - (itoa n).length : Nat) : Int) := by split <;> omega
  have hr := c_Repeat0 (w - (itoa n).length) (by omega)
  simp -dsimp -implicitDefEqProofs only [go_sem, ↓reduceIte, Nat.reduceEqDiff, Nat.reduceLT, Nat.reduceAdd, Nat.reduceMul, Nat.reduceLeDiff, Nat.le_refl, Int.natCast_zero, Int.toNat_natCast, Int.reduceToNat]
  (refine sCallT_one (ht) ?_; try simp -dsimp -implicitDefEqProofs only [go_sem, ↓reduceIte, Nat.reduceEqDiff, Nat.reduceLT, Nat.reduceAdd, Nat.reduceMul, Nat.reduceLeDiff, Nat.le_refl, Int.natCast_zero, Int.toNat_natCast, Int.reduceToNat, *])
  ((repeat' (with_reducible refine And.intro ?_ ?_)); all_goals try (first | omega | (refine ⟨?_, ?_⟩ <;> omega) | (exact rfl)))
  refine sCallT_one hr ?_
  simp -dsimp -implicitDefEqProofs only [go_sem, ↓reduceIte, Nat.reduceEqDiff, Nat.reduceLT, Nat.reduceAdd, Nat.reduceMul, Nat.reduceLeDiff, Nat.le_refl, Int.natCast_zero, Int.toNat_natCast, Int.reduceToNat]
  refine ⟨by simp; omega, by exact rfl⟩
theorem c_checkOf (se n : Int) (h : 0 ≤ se ∧ se ≤ 25) (hn : 0 ≤ n ∧ n ≤ 9999999999) : Fn Tryz.prog 67 [eI se, eI n] true (· = eI (chk se n)) := by
  refine Fn.of_vcN 10 [.tmp 4] Tryz.func67 rfl rfl rfl rfl rfl (of_decide_eq_true rfl) ?_
  simp -dsimp -implicitDefEqProofs only [go_sem, ↓reduceIte, Nat.reduceEqDiff, Nat.reduceLT, Nat.reduceAdd, Nat.reduceMul, Nat.reduceLeDiff, Nat.le_refl, Int.natCast_zero, Int.toNat_natCast, Int.reduceToNat]
  ((repeat' (with_reducible refine And.intro ?_ ?_)); all_goals try (first | omega | (refine ⟨?_, ?_⟩ <;> omega) | (exact rfl)))
  all_goals trace_state
theorem c_l28Check (se n : Int) (h : 0 ≤ se ∧ se ≤ 25) (hn : 0 ≤ n ∧ n ≤ 9999999999) : Fn Tryz.prog 69 [eI se, eI n] true (· = eI (chk se n)) := by
  refine Fn.of_vcN 10 [.tmp 4] Tryz.func69 rfl rfl rfl rfl rfl (of_decide_eq_true rfl) ?_
  simp -dsimp -implicitDefEqProofs only [go_sem, ↓reduceIte, Nat.reduceEqDiff, Nat.reduceLT, Nat.reduceAdd, Nat.reduceMul, Nat.reduceLeDiff, Nat.le_refl, Int.natCast_zero, Int.toNat_natCast, Int.reduceToNat]
  ((repeat' (with_reducible refine And.intro ?_ ?_)); all_goals try (first | omega | (refine ⟨?_, ?_⟩ <;> omega) | (exact rfl)))
  all_goals trace_state
theorem chk_bound {se n : Int} (h : 0 ≤ se ∧ se ≤ 25) (hn : 0 ≤ n ∧ n ≤ 1000000) : 0 ≤ chk se n ∧ chk se n ≤ 96 := by
  unfold chk
  rw [Int.tmod_eq_emod_of_nonneg (by omega)]
  omega
theorem c_stampText (K se n : Int) (hK : 0 ≤ K ∧ K ≤ 1000000) (h : 0 ≤ se ∧ se ≤ 25) (hn : 0 ≤ n ∧ n ≤ 1000000) : Fn Tryz.prog 51 [eI K, eI se, eI n] true (· = eS (stampS (itoa K).length se n)) := by
  refine Fn.of_vcN 23 [.tmp 6] Tryz.func51 rfl rfl rfl rfl rfl (of_decide_eq_true rfl) ?_
  have ht := c_text (n := K) ⟨by omega, by omega⟩
  have hl := itoa_len (v := K) ⟨by omega, by omega⟩
  have hd := c_digitsText n (itoa K).length hn (by omega)
  have hc := c_checkOf se n h (by omega)
  have hcb := chk_bound h hn
  have hd2 := c_digitsText (chk se n) 2 (by omega) (by omega)
  have hw : IntKind.i32.wrap (65 + se) = 65 + se := i32_wrap (by omega)
  have hpl : (padS (itoa K).length (itoa n)).length ≤ 50 := by
    have := itoa_len (v := n) ⟨by omega, by omega⟩
    simp [padS]; omega
  have hpl2 : (padS 2 (itoa (chk se n))).length ≤ 50 := by
    have := itoa_len (v := chk se n) ⟨by omega, by omega⟩
    simp [padS]; omega
  unfold stampS
  generalize padS (itoa K).length (itoa n) = A at *
  generalize padS 2 (itoa (chk se n)) = Bs at *
  simp -dsimp -implicitDefEqProofs only [go_sem, ↓reduceIte, Nat.reduceEqDiff, Nat.reduceLT, Nat.reduceAdd, Nat.reduceMul, Nat.reduceLeDiff, Nat.le_refl, Int.natCast_zero, Int.toNat_natCast, Int.reduceToNat, hw]
  refine ⟨⟨by omega, by omega⟩, by omega, ?_⟩
  (refine sCallT_one (ht) ?_; try simp -dsimp -implicitDefEqProofs only [go_sem, ↓reduceIte, Nat.reduceEqDiff, Nat.reduceLT, Nat.reduceAdd, Nat.reduceMul, Nat.reduceLeDiff, Nat.le_refl, Int.natCast_zero, Int.toNat_natCast, Int.reduceToNat, *])
  (refine sCallT_one (hd) ?_; try simp -dsimp -implicitDefEqProofs only [go_sem, ↓reduceIte, Nat.reduceEqDiff, Nat.reduceLT, Nat.reduceAdd, Nat.reduceMul, Nat.reduceLeDiff, Nat.le_refl, Int.natCast_zero, Int.toNat_natCast, Int.reduceToNat, *])
  ((repeat' (with_reducible refine And.intro ?_ ?_)); all_goals try (first | omega | (refine ⟨?_, ?_⟩ <;> omega) | (exact rfl)))
  all_goals try (refine sCallT_one (hc) ?_; try simp -dsimp -implicitDefEqProofs only [go_sem, ↓reduceIte, Nat.reduceEqDiff, Nat.reduceLT, Nat.reduceAdd, Nat.reduceMul, Nat.reduceLeDiff, Nat.le_refl, Int.natCast_zero, Int.toNat_natCast, Int.reduceToNat, *])
  ((repeat' (with_reducible refine And.intro ?_ ?_)); all_goals try (first | omega | (refine ⟨?_, ?_⟩ <;> omega) | (exact rfl)))
  all_goals try (refine sCallT_one (hd2) ?_; try simp -dsimp -implicitDefEqProofs only [go_sem, ↓reduceIte, Nat.reduceEqDiff, Nat.reduceLT, Nat.reduceAdd, Nat.reduceMul, Nat.reduceLeDiff, Nat.le_refl, Int.natCast_zero, Int.toNat_natCast, Int.reduceToNat, *])
  ((repeat' (with_reducible refine And.intro ?_ ?_)); all_goals try (first | omega | (refine ⟨?_, ?_⟩ <;> omega) | (exact rfl)))
  all_goals trace_state
theorem c_l28Pad (n : Int) (w : Nat) (hn : 0 ≤ n ∧ n ≤ 1000000) (hw : w ≤ 1000) : Fn Tryz.prog 104 [eI n, eI w] true (· = eS (padS w (itoa n))) := by
  refine Fn.of_vcN 15 [.tmp 4] Tryz.func104 rfl rfl rfl rfl rfl (of_decide_eq_true rfl) ?_
  have ht := c_l01DecI n ⟨by omega, by omega⟩
  have hl := itoa_len (v := n) ⟨by omega, by omega⟩
  unfold padS
  generalize itoa n = A at *
  simp -dsimp -implicitDefEqProofs only [go_sem, ↓reduceIte, Nat.reduceEqDiff, Nat.reduceLT, Nat.reduceAdd, Nat.reduceMul, Nat.reduceLeDiff, Nat.le_refl, Int.natCast_zero, Int.toNat_natCast, Int.reduceToNat]
  (refine sCallT_one (ht) ?_; try simp -dsimp -implicitDefEqProofs only [go_sem, ↓reduceIte, Nat.reduceEqDiff, Nat.reduceLT, Nat.reduceAdd, Nat.reduceMul, Nat.reduceLeDiff, Nat.le_refl, Int.natCast_zero, Int.toNat_natCast, Int.reduceToNat, *])
  refine Later.up [1] [9] [] (w - A.length) (fun _ => True) (fun i => [(5, eS (List.replicate i 48 ++ A))]) (fun _ => []) trivial ?_ rfl (fun i hi _ => ?_) (fun _ => ?_)
  · simp -dsimp -implicitDefEqProofs only [go_sem, ↓reduceIte, Nat.reduceEqDiff, Nat.reduceLT, Nat.reduceAdd, Nat.reduceMul, Nat.reduceLeDiff, Nat.le_refl, Int.natCast_zero, Int.toNat_natCast, Int.reduceToNat]
    try simp
  · have hlt : decide (((i + A.length : Nat) : Int) < (w : Int)) = true := decide_eq_true (by omega)
    have hlen : (List.replicate i (48 : UInt8) ++ A).length = i + A.length := by simp
    rw [List.replicate_succ]
    simp -dsimp -implicitDefEqProofs only [pick_nil, pick_cons, look_nil, look_cons, dropB_nil, dropB_cons, inD_nil, inD_cons, inE_nil, inE_cons, or_t_l, or_f_l, Nat.reduceBEq, Nat.reduceDiv, Nat.reduceAdd, beq_self_eq_true, Bool.false_eq_true, Bool.or_false, ↓reduceIte, Nat.reduceEqDiff, List.cons_append, List.nil_append]
    simp -dsimp -implicitDefEqProofs only [go_sem, ↓reduceIte, Nat.reduceEqDiff, Nat.reduceLT, Nat.reduceAdd, Nat.reduceMul, Nat.reduceLeDiff, Nat.le_refl, Int.natCast_zero, Int.toNat_natCast, Int.reduceToNat, hlen, hlt]
    ((repeat' (with_reducible refine And.intro ?_ ?_)); all_goals try (first | omega | (refine ⟨?_, ?_⟩ <;> omega) | (exact rfl)))
    all_goals trace_state
  · have hlt : decide (((w - A.length + A.length : Nat) : Int) < (w : Int)) = false := decide_eq_false (by omega)
    have hlen : (List.replicate (w - A.length) (48 : UInt8) ++ A).length = w - A.length + A.length := by simp
    simp -dsimp -implicitDefEqProofs only [pick_nil, pick_cons, look_nil, look_cons, dropB_nil, dropB_cons, inD_nil, inD_cons, inE_nil, inE_cons, or_t_l, or_f_l, Nat.reduceBEq, Nat.reduceDiv, Nat.reduceAdd, beq_self_eq_true, Bool.false_eq_true, Bool.or_false, ↓reduceIte, Nat.reduceEqDiff, List.cons_append, List.nil_append]
    simp -dsimp -implicitDefEqProofs only [go_sem, ↓reduceIte, Nat.reduceEqDiff, Nat.reduceLT, Nat.reduceAdd, Nat.reduceMul, Nat.reduceLeDiff, Nat.le_refl, Int.natCast_zero, Int.toNat_natCast, Int.reduceToNat, hlen, hlt]
theorem cnt_nil_bound (m : MkM) (hm : isMk m = true) : cnt m m.chambers.toNat [] ≤ 262144 := by
  have hnum := isMk_num hm
  have := cnt_le m hm m.chambers.toNat []
  have : 8 ^ m.chambers.toNat ≤ 8 ^ 6 := Nat.pow_le_pow_right (by decide) (by omega)
  omega
theorem c_l02Count0 (m : MkM) (hm : isMk m = true) : Fn Tryz.prog 56 [eMk m, eNil] true (· = eI (cnt m m.chambers.toNat [])) :=
  (c_l02Count m hm m.chambers.toNat [] (by have := isMk_num hm; simp; omega) (fun x hx => by cases hx)).subs (.cons (.refl _) (.cons (.nil _) .nil))
theorem c_l28Digits (m : MkM) (hm : isMk m = true) : Fn Tryz.prog 71 [eMk m] true (· = eI ((itoa (cnt m m.chambers.toNat [])).length)) := by
  refine Fn.of_vcN 7 [.tmp 2] Tryz.func71 rfl rfl rfl rfl rfl (of_decide_eq_true rfl) ?_
  have hc := c_l02Count0 m hm
  have hb := cnt_nil_bound m hm
  generalize cnt m m.chambers.toNat [] = N at *
  have ht := c_l01DecI (N : Int) ⟨by omega, by omega⟩
  simp -dsimp -implicitDefEqProofs only [go_sem, ↓reduceIte, Nat.reduceEqDiff, Nat.reduceLT, Nat.reduceAdd, Nat.reduceMul, Nat.reduceLeDiff, Nat.le_refl, Int.natCast_zero, Int.toNat_natCast, Int.reduceToNat]
  (refine sCallT_one (hc) ?_; try simp -dsimp -implicitDefEqProofs only [go_sem, ↓reduceIte, Nat.reduceEqDiff, Nat.reduceLT, Nat.reduceAdd, Nat.reduceMul, Nat.reduceLeDiff, Nat.le_refl, Int.natCast_zero, Int.toNat_natCast, Int.reduceToNat, *])
  repeat' (refine sCallT_one (ht) ?_; try simp -dsimp -implicitDefEqProofs only [go_sem, ↓reduceIte, Nat.reduceEqDiff, Nat.reduceLT, Nat.reduceAdd, Nat.reduceMul, Nat.reduceLeDiff, Nat.le_refl, Int.natCast_zero, Int.toNat_natCast, Int.reduceToNat, *])
theorem c_l28Text (m : MkM) (hm : isMk m = true) (se n : Int) (h : 0 ≤ se ∧ se ≤ 25) (hn : 0 ≤ n ∧ n ≤ 1000000) : Fn Tryz.prog 54 [eMk m, eI se, eI n] true (· = eS (stampS (itoa (cnt m m.chambers.toNat [])).length se n)) := by
  refine Fn.of_vcN 23 [.tmp 6] Tryz.func54 rfl rfl rfl rfl rfl (of_decide_eq_true rfl) ?_
  have hc := c_l28Digits m hm
  have hb := cnt_nil_bound m hm
  generalize cnt m m.chambers.toNat [] = N at *
  have hl := itoa_len (v := (N : Int)) ⟨by omega, by omega⟩
  have hp := c_l28Pad n (itoa N).length hn (by omega)
  have hk := c_l28Check se n h (by omega)
  have hcb := chk_bound h hn
  have hp2 := c_l28Pad (chk se n) 2 (by omega) (by omega)
  have hw : IntKind.u8.wrap (65 + se) = 65 + se := u8_wrap (by omega)
  have hpl : (padS (itoa N).length (itoa n)).length ≤ 50 := by
    have := itoa_len (v := n) ⟨by omega, by omega⟩
    simp [padS]; omega
  have hpl2 : (padS 2 (itoa (chk se n))).length ≤ 50 := by
    have := itoa_len (v := chk se n) ⟨by omega, by omega⟩
    simp [padS]; omega
  unfold stampS
  generalize padS (itoa N).length (itoa n) = A at *
  generalize padS 2 (itoa (chk se n)) = Bs at *
  simp -dsimp -implicitDefEqProofs only [go_sem, ↓reduceIte, Nat.reduceEqDiff, Nat.reduceLT, Nat.reduceAdd, Nat.reduceMul, Nat.reduceLeDiff, Nat.le_refl, Int.natCast_zero, Int.toNat_natCast, Int.reduceToNat]
  refine Later.draw mixed rfl ?_
  simp -dsimp -implicitDefEqProofs only [go_sem, ↓reduceIte, Nat.reduceEqDiff, Nat.reduceLT, Nat.reduceAdd, Nat.reduceMul, Nat.reduceLeDiff, Nat.le_refl, Int.natCast_zero, Int.toNat_natCast, Int.reduceToNat, hw]
  refine ⟨⟨by omega, by omega⟩, by omega, ?_⟩
  (refine sCallX_one (hc) ?_; try simp -dsimp -implicitDefEqProofs only [go_sem, ↓reduceIte, Nat.reduceEqDiff, Nat.reduceLT, Nat.reduceAdd, Nat.reduceMul, Nat.reduceLeDiff, Nat.le_refl, Int.natCast_zero, Int.toNat_natCast, Int.reduceToNat, *])
  (refine sCallX_one (hp) ?_; try simp -dsimp -implicitDefEqProofs only [go_sem, ↓reduceIte, Nat.reduceEqDiff, Nat.reduceLT, Nat.reduceAdd, Nat.reduceMul, Nat.reduceLeDiff, Nat.le_refl, Int.natCast_zero, Int.toNat_natCast, Int.reduceToNat, *])
  ((repeat' (with_reducible refine And.intro ?_ ?_)); all_goals try (first | omega | (refine ⟨?_, ?_⟩ <;> omega) | (exact rfl)))
  all_goals try (refine sCallX_one (hk) ?_; try simp -dsimp -implicitDefEqProofs only [go_sem, ↓reduceIte, Nat.reduceEqDiff, Nat.reduceLT, Nat.reduceAdd, Nat.reduceMul, Nat.reduceLeDiff, Nat.le_refl, Int.natCast_zero, Int.toNat_natCast, Int.reduceToNat, *])
  ((repeat' (with_reducible refine And.intro ?_ ?_)); all_goals try (first | omega | (refine ⟨?_, ?_⟩ <;> omega) | (exact rfl)))
  all_goals try (refine sCallX_one (hp2) ?_; try simp -dsimp -implicitDefEqProofs only [go_sem, ↓reduceIte, Nat.reduceEqDiff, Nat.reduceLT, Nat.reduceAdd, Nat.reduceMul, Nat.reduceLeDiff, Nat.le_refl, Int.natCast_zero, Int.toNat_natCast, Int.reduceToNat, *])
  ((repeat' (with_reducible refine And.intro ?_ ?_)); all_goals try (first | omega | (refine ⟨?_, ?_⟩ <;> omega) | (exact rfl)))
  all_goals trace_state
end Go.Vc


