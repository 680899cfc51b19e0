/-
  Contracts: whether cuts are a key of a maker.
-/
import Derived.Test.YtlelhmbhhnokoaaDoorDesk
set_option linter.unusedVariables false
set_option linter.unusedSimpArgs false
set_option linter.unnecessarySimpa false
namespace Go.Vc
open Go.Proofs
set_option maxRecDepth 100000
set_option maxHeartbeats 2000000
theorem c_l02Cuts (m : MkM) (c : List Int) (hm : isMk m = true) (h : c.length ≤ 1048576) : Fn Tryd.prog 92 [eMk m, eIs c] true (· = eB ((c.all fun x => isIn x 0 (m.depths - 1)) && ((c.length : Int) == m.chambers))) := by
  refine Fn.of_vcN 26 [.tmp 4] Tryd.func92 rfl rfl rfl rfl rfl (of_decide_eq_true rfl) ?_
  have hb := isMk_num hm
  simp -dsimp -implicitDefEqProofs only [go_sem, ↓reduceIte, Nat.reduceEqDiff, Nat.reduceLT, Nat.reduceAdd, Nat.reduceMul, Nat.reduceLeDiff, Nat.le_refl, Int.natCast_zero, Int.toNat_natCast, Int.reduceToNat]
  refine Later.up [1, 2] [8, 19] [] c.length (fun i => (c.take i).all (fun x => isIn x 0 (m.depths - 1))) (fun i => [(5, eI i)]) (fun _ => []) (by simp) ?_ rfl (fun i hi hI => ?_) (fun hI => ?_)
  · simp -dsimp -implicitDefEqProofs only [go_sem, ↓reduceIte, Nat.reduceEqDiff, Nat.reduceLT, Nat.reduceAdd, Nat.reduceMul, Nat.reduceLeDiff, Nat.le_refl, Int.natCast_zero, Int.toNat_natCast, Int.reduceToNat]
  · have gi := get_some hi
    have li := lt_len hi
    have no : isIn c[i] 0 (m.depths - 1) = false → (c.all fun x => isIn x 0 (m.depths - 1)) = false := fun h => all_no (p := fun x => isIn x 0 (m.depths - 1)) hi h
    have yes : isIn c[i] 0 (m.depths - 1) = true → (c.take (i + 1)).all (fun x => isIn x 0 (m.depths - 1)) = true := fun h => by rw [all_take _ _ _ hi, hI, h]; rfl
    simp -dsimp -implicitDefEqProofs only [pick_nil, pick_cons, look_nil, look_cons, dropB_nil, dropB_cons, inD_nil, inD_cons, inE_nil, inE_cons, or_t_l, or_f_l, Nat.reduceBEq, Nat.reduceDiv, Nat.reduceAdd, beq_self_eq_true, Bool.false_eq_true, Bool.or_false, ↓reduceIte, Nat.reduceEqDiff, List.cons_append, List.nil_append]
    simp -dsimp -implicitDefEqProofs only [go_sem, ↓reduceIte, Nat.reduceEqDiff, Nat.reduceLT, Nat.reduceAdd, Nat.reduceMul, Nat.reduceLeDiff, Nat.le_refl, Int.natCast_zero, Int.toNat_natCast, Int.reduceToNat, li, gi]
    repeat' first
      | (refine Br.intro (fun _ => ?_) (fun _ => ?_) <;> try simp -dsimp -implicitDefEqProofs only [go_sem, ↓reduceIte, Nat.reduceEqDiff, Nat.reduceLT, Nat.reduceAdd, Nat.reduceMul, Nat.reduceLeDiff, Nat.le_refl, Int.natCast_zero, Int.toNat_natCast, Int.reduceToNat, *])
      | (with_reducible refine And.intro ?_ ?_)
      | (refine Later.draw mixed rfl ?_; try simp -dsimp -implicitDefEqProofs only [go_sem, ↓reduceIte, Nat.reduceEqDiff, Nat.reduceLT, Nat.reduceAdd, Nat.reduceMul, Nat.reduceLeDiff, Nat.le_refl, Int.natCast_zero, Int.toNat_natCast, Int.reduceToNat, *])
      | (refine sCallX_one (c_l01In _ _ _) ?_; try simp -dsimp -implicitDefEqProofs only [go_sem, ↓reduceIte, Nat.reduceEqDiff, Nat.reduceLT, Nat.reduceAdd, Nat.reduceMul, Nat.reduceLeDiff, Nat.le_refl, Int.natCast_zero, Int.toNat_natCast, Int.reduceToNat, *])
    all_goals first
      | omega
      | (refine ⟨?_, ?_⟩ <;> omega)
      | rfl
      | (simp; done)
      | (rw [no (by simp_all)]; rfl)
      | (refine yes ?_; simp_all; done)
      | trace_state
  · simp -dsimp -implicitDefEqProofs only [pick_nil, pick_cons, look_nil, look_cons, dropB_nil, dropB_cons, inD_nil, inD_cons, inE_nil, inE_cons, or_t_l, or_f_l, Nat.reduceBEq, Nat.reduceDiv, Nat.reduceAdd, beq_self_eq_true, Bool.false_eq_true, Bool.or_false, ↓reduceIte, Nat.reduceEqDiff, List.cons_append, List.nil_append]
    rw [List.take_length] at hI
    simp -dsimp -implicitDefEqProofs only [go_sem, ↓reduceIte, Nat.reduceEqDiff, Nat.reduceLT, Nat.reduceAdd, Nat.reduceMul, Nat.reduceLeDiff, Nat.le_refl, Int.natCast_zero, Int.toNat_natCast, Int.reduceToNat, nlt_len]
    rw [hI]
    rfl
theorem c_areCuts (m : MkM) (c : List Int) (hm : isMk m = true) (h : c.length ≤ 1048576) : Fn Tryd.prog 132 [eMk m, eIs c] true (· = eB (((c.length : Int) == m.chambers) && (c.all fun x => isIn x 0 (m.depths - 1)))) := by
  refine Fn.of_vcN 17 [.tmp 4] Tryd.func132 rfl rfl rfl rfl rfl (of_decide_eq_true rfl) ?_
  have hb := isMk_num hm
  simp -dsimp -implicitDefEqProofs only [go_sem, ↓reduceIte, Nat.reduceEqDiff, Nat.reduceLT, Nat.reduceAdd, Nat.reduceMul, Nat.reduceLeDiff, Nat.le_refl, Int.natCast_zero, Int.toNat_natCast, Int.reduceToNat]
  repeat' first
    | (refine Br.intro (fun _ => ?_) (fun _ => ?_) <;> try simp -dsimp -implicitDefEqProofs only [go_sem, ↓reduceIte, Nat.reduceEqDiff, Nat.reduceLT, Nat.reduceAdd, Nat.reduceMul, Nat.reduceLeDiff, Nat.le_refl, Int.natCast_zero, Int.toNat_natCast, Int.reduceToNat, *])
    | (with_reducible refine And.intro ?_ ?_)
    | (refine sCallT_one (c_allWithin c 0 (m.depths - 1) (by omega)) ?_; try simp -dsimp -implicitDefEqProofs only [go_sem, ↓reduceIte, Nat.reduceEqDiff, Nat.reduceLT, Nat.reduceAdd, Nat.reduceMul, Nat.reduceLeDiff, Nat.le_refl, Int.natCast_zero, Int.toNat_natCast, Int.reduceToNat, *])
  all_goals first
    | omega
    | (refine ⟨?_, ?_⟩ <;> omega)
    | (simp_all; done)
    | trace_state
theorem elem_in {m : MkM} {c : List Int} (hm : isMk m = true) (ha : (c.all fun x => isIn x 0 (m.depths - 1)) = true) (i : Nat) (hi : i < c.length) : 0 ≤ c[i] ∧ c[i] ≤ 7 := by
  have := isMk_num hm
  rw [List.all_eq_true] at ha
  have := ha _ (List.getElem_mem hi)
  simp [isIn] at this
  omega
theorem isMk_same {m : MkM} (h : isMk m = true) : 1 ≤ m.same ∧ m.same ≤ 6 ∧ 1 ≤ m.least ∧ 1 ≤ m.step := by
  simp only [isMk, Bool.and_eq_true, isIn, decide_eq_true_eq] at h
  omega
theorem c_l02Fault (m : MkM) (c : List Int) (hm : isMk m = true) (h : c.length ≤ 1048576) : Fn Tryd.prog 71 [eMk m, eIs c] true (· = eI (fault m c)) := by
  refine Fn.of_vcN 71 [.tmp 4] Tryd.func71 rfl rfl rfl rfl rfl (of_decide_eq_true rfl) ?_
  rcases hl : ((c.length : Int) == m.chambers) with _ | _
  · have hF : fault m c = 1 := by rw [fault, if_pos (by simpa using hl)]
    rw [hF]
    simp -dsimp -implicitDefEqProofs only [go_sem, ↓reduceIte, Nat.reduceEqDiff, Nat.reduceLT, Nat.reduceAdd, Nat.reduceMul, Nat.reduceLeDiff, Nat.le_refl, Int.natCast_zero, Int.toNat_natCast, Int.reduceToNat, hl]
    repeat' first
      | (refine Br.intro (fun _ => ?_) (fun _ => ?_) <;> try simp -dsimp -implicitDefEqProofs only [go_sem, ↓reduceIte, Nat.reduceEqDiff, Nat.reduceLT, Nat.reduceAdd, Nat.reduceMul, Nat.reduceLeDiff, Nat.le_refl, Int.natCast_zero, Int.toNat_natCast, Int.reduceToNat, *])
      | (with_reducible refine And.intro ?_ ?_)
    all_goals (first | omega | (refine ⟨?_, ?_⟩ <;> omega) | (simp; done) | (simp; omega) | (refine ⟨?_, ?_⟩ <;> omega) | rfl | (simp; done) | (simp_all; done) | (simp_all; omega) | (exfalso; simp_all [bne]; done) | trace_state)
  have hle : ¬ (c.length : Int) ≠ m.chambers := by simpa using hl
  rcases ha : (c.all fun x => isIn x 0 (m.depths - 1)) with _ | _
  · have hF : fault m c = 2 := by rw [fault, if_neg hle, if_pos ha]
    have hc := c_l02Cuts m c hm h
    rw [ha, hl] at hc
    rw [hF]
    clear hF ha hle
    simp -dsimp -implicitDefEqProofs only [go_sem, ↓reduceIte, Nat.reduceEqDiff, Nat.reduceLT, Nat.reduceAdd, Nat.reduceMul, Nat.reduceLeDiff, Nat.le_refl, Int.natCast_zero, Int.toNat_natCast, Int.reduceToNat, hl]
    repeat' first
      | (refine Br.intro (fun _ => ?_) (fun _ => ?_) <;> try simp -dsimp -implicitDefEqProofs only [go_sem, ↓reduceIte, Nat.reduceEqDiff, Nat.reduceLT, Nat.reduceAdd, Nat.reduceMul, Nat.reduceLeDiff, Nat.le_refl, Int.natCast_zero, Int.toNat_natCast, Int.reduceToNat, *])
      | (with_reducible refine And.intro ?_ ?_)
      | (refine sCallT_one (hc) ?_; try simp -dsimp -implicitDefEqProofs only [go_sem, ↓reduceIte, Nat.reduceEqDiff, Nat.reduceLT, Nat.reduceAdd, Nat.reduceMul, Nat.reduceLeDiff, Nat.le_refl, Int.natCast_zero, Int.toNat_natCast, Int.reduceToNat, *])
    all_goals (first | omega | (refine ⟨?_, ?_⟩ <;> omega) | (simp; done) | (simp; omega) | (refine ⟨?_, ?_⟩ <;> omega) | rfl | (simp; done) | (simp_all; done) | (simp_all; omega) | (exfalso; simp_all [bne]; done) | trace_state)
  have hF : fault m c = if ((List.range c.length).all (stepAt m c)) = false then 3 else if ((List.range c.length).all fun i => decide ((runAt c i : Int) ≤ m.same)) = false then 4 else if (kindsTo c c.length : Int) < m.least then 5 else 0 := by
    rw [fault, if_neg hle, if_neg (by simp [ha])]
  have hc := c_l02Cuts m c hm h
  rw [ha, hl] at hc
  have hel := elem_in hm ha
  have hsm := isMk_same hm
  have hkl := kindsTo_le c c.length
  have hch : c.length ≤ 6 := by have := isMk_num hm; omega
  clear ha hle
  simp -dsimp -implicitDefEqProofs only [go_sem, ↓reduceIte, Nat.reduceEqDiff, Nat.reduceLT, Nat.reduceAdd, Nat.reduceMul, Nat.reduceLeDiff, Nat.le_refl, Int.natCast_zero, Int.toNat_natCast, Int.reduceToNat, hl]
  repeat' first
    | (refine Br.intro (fun _ => ?_) (fun _ => ?_) <;> try simp -dsimp -implicitDefEqProofs only [go_sem, ↓reduceIte, Nat.reduceEqDiff, Nat.reduceLT, Nat.reduceAdd, Nat.reduceMul, Nat.reduceLeDiff, Nat.le_refl, Int.natCast_zero, Int.toNat_natCast, Int.reduceToNat, *])
    | (with_reducible refine And.intro ?_ ?_)
    | (refine sCallT_one (hc) ?_; try simp -dsimp -implicitDefEqProofs only [go_sem, ↓reduceIte, Nat.reduceEqDiff, Nat.reduceLT, Nat.reduceAdd, Nat.reduceMul, Nat.reduceLeDiff, Nat.le_refl, Int.natCast_zero, Int.toNat_natCast, Int.reduceToNat, *])
  all_goals try (first | omega | (simp; done) | (simp_all; done))
  clear hl hc
  refine Later.up [1, 2] [19, 36, 59] [] c.length (fun i => (List.range i).all (stepAt m c)) (fun i => [(7, eI i), (5, eI (runTo c i)), (6, eI (mostTo c i))]) (fun _ => []) (by simp) ?_ rfl (fun i hi hI => ?_) (fun hI => ?_)
  · have h0 : mostTo c 0 = 0 := by unfold mostTo; rfl
    rw [show runTo c 0 = 0 from rfl, h0]
    simp -dsimp -implicitDefEqProofs only [go_sem, ↓reduceIte, Nat.reduceEqDiff, Nat.reduceLT, Nat.reduceAdd, Nat.reduceMul, Nat.reduceLeDiff, Nat.le_refl, Int.natCast_zero, Int.toNat_natCast, Int.reduceToNat]
    all_goals (first | omega | (refine ⟨?_, ?_⟩ <;> omega) | (simp; done) | (simp; omega) | (refine ⟨?_, ?_⟩ <;> omega) | rfl | (simp; done) | (simp_all; done) | (simp_all; omega) | (exfalso; simp_all [bne]; done) | trace_state)
  · have no : stepAt m c i = false → fault m c = 3 := fun h => by rw [hF, if_pos (range_all_no hi h)]
    have yes : stepAt m c i = true → (List.range (i + 1)).all (stepAt m c) = true := fun h => by rw [range_all_succ, hI, h]; rfl
    have hM : ((mostTo c (i + 1) : Nat) : Int) = if ((runTo c (i + 1) : Nat) : Int) > (mostTo c i : Int) then ((runTo c (i + 1) : Nat) : Int) else (mostTo c i : Int) := by
      rw [show runTo c (i + 1) = runAt c i from rfl]
      show ((mostTo c (i + 1) : Nat) : Int) = _
      rw [show mostTo c (i + 1) = if mostTo c i < runAt c i then runAt c i else mostTo c i by rw [mostTo]]
      by_cases hlt : mostTo c i < runAt c i
      · rw [if_pos hlt, if_pos (by omega)]
      · rw [if_neg hlt, if_neg (by omega)]
    have hrb : runTo c i ≤ i ∧ runTo c (i + 1) ≤ i + 1 := by
      refine ⟨?_, (runAt_spec c i).2.1⟩
      rw [runTo]; split
      · omega
      · have := (runAt_spec c (i - 1)).2.1; omega
    have hmb : mostTo c i ≤ c.length := by
      have key : ∀ n, mostTo c n ≤ n := fun n => by
        induction n with
        | zero => unfold mostTo; omega
        | succ n ih => rw [mostTo]; have := (runAt_spec c n).2.1; split <;> omega
      have := key i; omega
    have e1 := hel i hi
    have gi := get_some hi
    have li := lt_len hi
    clear hF hI
    generalize mostTo c i = M at hM hmb
    generalize mostTo c (i + 1) = M' at hM
    by_cases hi0 : 0 < i
    rotate_left
    · have g3 : decide ((i : Int) > 0) = false := by simp; omega
      have hR : runTo c i = 0 ∧ runTo c (i + 1) = 1 := by
        have e0 : i = 0 := by omega
        subst e0
        exact ⟨rfl, by show runAt c 0 = 1; unfold runAt; rfl⟩
      have hs : stepAt m c i = true := by
        have e0 : i = 0 := by omega
        subst e0; rfl
      rw [hR.1, hR.2]
      rw [hR.2] at hM
      clear hR hrb no
      have yes := yes hs
      simp -dsimp -implicitDefEqProofs only [pick_nil, pick_cons, look_nil, look_cons, dropB_nil, dropB_cons, inD_nil, inD_cons, inE_nil, inE_cons, or_t_l, or_f_l, Nat.reduceBEq, Nat.reduceDiv, Nat.reduceAdd, beq_self_eq_true, Bool.false_eq_true, Bool.or_false, ↓reduceIte, Nat.reduceEqDiff, List.cons_append, List.nil_append]
      rw [hM]
      simp -dsimp -implicitDefEqProofs only [go_sem, ↓reduceIte, Nat.reduceEqDiff, Nat.reduceLT, Nat.reduceAdd, Nat.reduceMul, Nat.reduceLeDiff, Nat.le_refl, Int.natCast_zero, Int.toNat_natCast, Int.reduceToNat, li, gi, g3]
      repeat' first
        | (refine Br.intro (fun _ => ?_) (fun _ => ?_) <;> try simp -dsimp -implicitDefEqProofs only [go_sem, ↓reduceIte, Nat.reduceEqDiff, Nat.reduceLT, Nat.reduceAdd, Nat.reduceMul, Nat.reduceLeDiff, Nat.le_refl, Int.natCast_zero, Int.toNat_natCast, Int.reduceToNat, *])
        | (with_reducible refine And.intro ?_ ?_)
        | (refine Later.draw mixed rfl ?_; try simp -dsimp -implicitDefEqProofs only [go_sem, ↓reduceIte, Nat.reduceEqDiff, Nat.reduceLT, Nat.reduceAdd, Nat.reduceMul, Nat.reduceLeDiff, Nat.le_refl, Int.natCast_zero, Int.toNat_natCast, Int.reduceToNat, li, gi, g3])
      all_goals first
        | exact yes
        | (first | omega | (refine ⟨?_, ?_⟩ <;> omega) | (simp; done) | (simp; omega) | (refine ⟨?_, ?_⟩ <;> omega) | rfl | (simp; done) | (simp_all; done) | (simp_all; omega) | (exfalso; simp_all [bne]; done) | trace_state)
    · have hi' : i - 1 < c.length := by omega
      have e2 := hel (i - 1) hi'
      have g2 : c[((i : Int) - 1).toNat]? = some c[i - 1] := by rw [pred_toNat hi0]; exact get_some hi'
      have g3 : decide ((i : Int) > 0) = true := by simp; omega
      have hs : stepAt m c i = decide (absN (c[i] - c[i - 1]) ≤ m.step) := by
        rw [stepAt, show (i == 0) = false by simp; omega]
        simp [List.getD_eq_getElem?_getD, hi, hi']
      have hR : ((runTo c (i + 1) : Nat) : Int) = if (c[i] == c[i - 1]) = true then (runTo c i : Int) + 1 else 0 + 1 := by
        obtain ⟨j, rfl⟩ : ∃ j, i = j + 1 := ⟨i - 1, by omega⟩
        rw [show runTo c (j + 1 + 1) = runAt c (j + 1) from rfl, show runTo c (j + 1) = runAt c j from rfl, runAt]
        simp only [Nat.add_sub_cancel]
        have q1 : c.getD (j + 1) 0 = c[j + 1] := by simp [List.getD_eq_getElem?_getD, hi]
        have q2 : c.getD j 0 = c[j] := by simp [List.getD_eq_getElem?_getD, show j < c.length by omega]
        rw [q1, q2]
        by_cases hq : c[j + 1] = c[j]
        · rw [if_pos hq, if_pos (by simpa using hq)]; simp
        · rw [if_neg hq, if_neg (by simpa using hq)]; simp
      rw [hs] at no yes
      have yes' : decide (absN (c[i] - c[i - 1]) > m.step) = false → (List.range (i + 1)).all (stepAt m c) = true := fun h => yes (decide_eq_true (by have := of_decide_eq_false h; omega))
      have no' : decide (absN (c[i] - c[i - 1]) > m.step) = true → fault m c = 3 := fun h => no (decide_eq_false (by have := of_decide_eq_true h; omega))
      have hab : absN (c[i] - c[i - 1]) ≤ 7 := by unfold absN; split <;> omega
      have hab0 : 0 ≤ absN (c[i] - c[i - 1]) := by unfold absN; split <;> omega
      generalize runTo c i = R at hR hrb
      generalize runTo c (i + 1) = R' at hR hrb hM
      clear hs
      simp -dsimp -implicitDefEqProofs only [pick_nil, pick_cons, look_nil, look_cons, dropB_nil, dropB_cons, inD_nil, inD_cons, inE_nil, inE_cons, or_t_l, or_f_l, Nat.reduceBEq, Nat.reduceDiv, Nat.reduceAdd, beq_self_eq_true, Bool.false_eq_true, Bool.or_false, ↓reduceIte, Nat.reduceEqDiff, List.cons_append, List.nil_append]
      rw [hM]
      clear hM
      rw [hR]
      simp -dsimp -implicitDefEqProofs only [go_sem, ↓reduceIte, Nat.reduceEqDiff, Nat.reduceLT, Nat.reduceAdd, Nat.reduceMul, Nat.reduceLeDiff, Nat.le_refl, Int.natCast_zero, Int.toNat_natCast, Int.reduceToNat, li, gi, g2, g3]
      repeat' first
        | (refine Br.intro (fun _ => ?_) (fun _ => ?_) <;> try simp -dsimp -implicitDefEqProofs only [go_sem, ↓reduceIte, Nat.reduceEqDiff, Nat.reduceLT, Nat.reduceAdd, Nat.reduceMul, Nat.reduceLeDiff, Nat.le_refl, Int.natCast_zero, Int.toNat_natCast, Int.reduceToNat, *])
        | (with_reducible refine And.intro ?_ ?_)
        | (refine Later.draw mixed rfl ?_; try simp -dsimp -implicitDefEqProofs only [go_sem, ↓reduceIte, Nat.reduceEqDiff, Nat.reduceLT, Nat.reduceAdd, Nat.reduceMul, Nat.reduceLeDiff, Nat.le_refl, Int.natCast_zero, Int.toNat_natCast, Int.reduceToNat, li, gi, g2, g3])
        | (refine sCallX_one (c_l01Abs _ (by omega)) ?_; try simp -dsimp -implicitDefEqProofs only [go_sem, ↓reduceIte, Nat.reduceEqDiff, Nat.reduceLT, Nat.reduceAdd, Nat.reduceMul, Nat.reduceLeDiff, Nat.le_refl, Int.natCast_zero, Int.toNat_natCast, Int.reduceToNat, *])
      all_goals first
        | (rw [no' (by assumption)]; done)
        | (rw [← List.range_succ]; exact yes' (by assumption))
        | (first | omega | (refine ⟨?_, ?_⟩ <;> omega) | (simp; done) | (simp; omega) | (refine ⟨?_, ?_⟩ <;> omega) | rfl | (simp; done) | (simp_all; done) | (simp_all; omega) | (exfalso; simp_all [bne]; done) | trace_state)
  · have hMl := mostTo_le c m.same (by omega) c.length
    rw [hI, if_neg (by decide)] at hF
    rw [hF]
    clear hF hel hI
    rcases hq : ((List.range c.length).all fun i => decide ((runAt c i : Int) ≤ m.same)) with _ | _
    all_goals
      rw [hq] at hMl
      clear hq
      by_cases hk : (kindsTo c c.length : Int) < m.least
    all_goals
      have hk' := hk
      first | rw [if_pos hk] | rw [if_neg hk]
      first | replace hk' := decide_eq_true hk' | replace hk' := decide_eq_false hk'
      clear hk
      simp -dsimp -implicitDefEqProofs only [pick_nil, pick_cons, look_nil, look_cons, dropB_nil, dropB_cons, inD_nil, inD_cons, inE_nil, inE_cons, or_t_l, or_f_l, Nat.reduceBEq, Nat.reduceDiv, Nat.reduceAdd, beq_self_eq_true, Bool.false_eq_true, Bool.or_false, ↓reduceIte, Nat.reduceEqDiff, List.cons_append, List.nil_append]
      simp -dsimp -implicitDefEqProofs only [go_sem, ↓reduceIte, Nat.reduceEqDiff, Nat.reduceLT, Nat.reduceAdd, Nat.reduceMul, Nat.reduceLeDiff, Nat.le_refl, Int.natCast_zero, Int.toNat_natCast, Int.reduceToNat, nlt_len, hMl]
      repeat' first
        | (refine Br.intro (fun _ => ?_) (fun _ => ?_) <;> try simp -dsimp -implicitDefEqProofs only [go_sem, ↓reduceIte, Nat.reduceEqDiff, Nat.reduceLT, Nat.reduceAdd, Nat.reduceMul, Nat.reduceLeDiff, Nat.le_refl, Int.natCast_zero, Int.toNat_natCast, Int.reduceToNat, *])
        | (with_reducible refine And.intro ?_ ?_)
        | (refine Later.draw mixed rfl ?_; try simp -dsimp -implicitDefEqProofs only [go_sem, ↓reduceIte, Nat.reduceEqDiff, Nat.reduceLT, Nat.reduceAdd, Nat.reduceMul, Nat.reduceLeDiff, Nat.le_refl, Int.natCast_zero, Int.toNat_natCast, Int.reduceToNat, nlt_len, hMl, hk'])
        | (refine sCallX_one (c_l02Kinds c h) ?_; try simp -dsimp -implicitDefEqProofs only [go_sem, ↓reduceIte, Nat.reduceEqDiff, Nat.reduceLT, Nat.reduceAdd, Nat.reduceMul, Nat.reduceLeDiff, Nat.le_refl, Int.natCast_zero, Int.toNat_natCast, Int.reduceToNat, *])
      all_goals (first | omega | (refine ⟨?_, ?_⟩ <;> omega) | (simp; done) | (simp; omega) | (refine ⟨?_, ?_⟩ <;> omega) | rfl | (simp; done) | (simp_all; done) | (simp_all; omega) | (exfalso; simp_all [bne]; done) | trace_state)
theorem c_keyFault (m : MkM) (c : List Int) (hm : isMk m = true) (h : c.length ≤ 1048576) : Fn Tryd.prog 113 [eMk m, eIs c] true (· = eI (fault m c)) := by
  refine Fn.of_vcN 55 [.tmp 4] Tryd.func113 rfl rfl rfl rfl rfl (of_decide_eq_true rfl) ?_
  rcases hl : ((c.length : Int) == m.chambers) with _ | _
  · have hF : fault m c = 1 := by rw [fault, if_pos (by simpa using hl)]
    rw [hF]
    simp -dsimp -implicitDefEqProofs only [go_sem, ↓reduceIte, Nat.reduceEqDiff, Nat.reduceLT, Nat.reduceAdd, Nat.reduceMul, Nat.reduceLeDiff, Nat.le_refl, Int.natCast_zero, Int.toNat_natCast, Int.reduceToNat, hl]
    repeat' first
      | (refine Br.intro (fun _ => ?_) (fun _ => ?_) <;> try simp -dsimp -implicitDefEqProofs only [go_sem, ↓reduceIte, Nat.reduceEqDiff, Nat.reduceLT, Nat.reduceAdd, Nat.reduceMul, Nat.reduceLeDiff, Nat.le_refl, Int.natCast_zero, Int.toNat_natCast, Int.reduceToNat, *])
      | (with_reducible refine And.intro ?_ ?_)
    all_goals (first | omega | (refine ⟨?_, ?_⟩ <;> omega) | (simp; done) | (simp; omega) | (refine ⟨?_, ?_⟩ <;> omega) | rfl | (simp; done) | (simp_all; done) | (simp_all; omega) | (exfalso; simp_all [bne]; done) | trace_state)
  have hle : ¬ (c.length : Int) ≠ m.chambers := by simpa using hl
  have hc := c_areCuts m c hm h
  rcases ha : (c.all fun x => isIn x 0 (m.depths - 1)) with _ | _
  · have hF : fault m c = 2 := by rw [fault, if_neg hle, if_pos ha]
    rw [ha, hl] at hc
    rw [hF]
    clear hF ha hle
    simp -dsimp -implicitDefEqProofs only [go_sem, ↓reduceIte, Nat.reduceEqDiff, Nat.reduceLT, Nat.reduceAdd, Nat.reduceMul, Nat.reduceLeDiff, Nat.le_refl, Int.natCast_zero, Int.toNat_natCast, Int.reduceToNat, hl]
    repeat' first
      | (refine Br.intro (fun _ => ?_) (fun _ => ?_) <;> try simp -dsimp -implicitDefEqProofs only [go_sem, ↓reduceIte, Nat.reduceEqDiff, Nat.reduceLT, Nat.reduceAdd, Nat.reduceMul, Nat.reduceLeDiff, Nat.le_refl, Int.natCast_zero, Int.toNat_natCast, Int.reduceToNat, *])
      | (with_reducible refine And.intro ?_ ?_)
      | (refine sCallT_one (hc) ?_; try simp -dsimp -implicitDefEqProofs only [go_sem, ↓reduceIte, Nat.reduceEqDiff, Nat.reduceLT, Nat.reduceAdd, Nat.reduceMul, Nat.reduceLeDiff, Nat.le_refl, Int.natCast_zero, Int.toNat_natCast, Int.reduceToNat, *])
    all_goals (first | omega | (refine ⟨?_, ?_⟩ <;> omega) | (simp; done) | (simp; omega) | (refine ⟨?_, ?_⟩ <;> omega) | rfl | (simp; done) | (simp_all; done) | (simp_all; omega) | (exfalso; simp_all [bne]; done) | trace_state)
  have hF : fault m c = if ((List.range c.length).all (stepAt m c)) = false then 3 else if ((List.range c.length).all fun i => decide ((runAt c i : Int) ≤ m.same)) = false then 4 else if (kindsTo c c.length : Int) < m.least then 5 else 0 := by
    rw [fault, if_neg hle, if_neg (by simp [ha])]
  rw [ha, hl] at hc
  have hel := elem_in hm ha
  have hsm := isMk_same hm
  have hkl := kindsTo_le c c.length
  have hch : 2 ≤ c.length ∧ c.length ≤ 6 := by have := isMk_num hm; omega
  clear ha hle
  simp -dsimp -implicitDefEqProofs only [go_sem, ↓reduceIte, Nat.reduceEqDiff, Nat.reduceLT, Nat.reduceAdd, Nat.reduceMul, Nat.reduceLeDiff, Nat.le_refl, Int.natCast_zero, Int.toNat_natCast, Int.reduceToNat, hl]
  repeat' first
    | (refine Br.intro (fun _ => ?_) (fun _ => ?_) <;> try simp -dsimp -implicitDefEqProofs only [go_sem, ↓reduceIte, Nat.reduceEqDiff, Nat.reduceLT, Nat.reduceAdd, Nat.reduceMul, Nat.reduceLeDiff, Nat.le_refl, Int.natCast_zero, Int.toNat_natCast, Int.reduceToNat, *])
    | (with_reducible refine And.intro ?_ ?_)
    | (refine sCallT_one (hc) ?_; try simp -dsimp -implicitDefEqProofs only [go_sem, ↓reduceIte, Nat.reduceEqDiff, Nat.reduceLT, Nat.reduceAdd, Nat.reduceMul, Nat.reduceLeDiff, Nat.le_refl, Int.natCast_zero, Int.toNat_natCast, Int.reduceToNat, *])
  all_goals try (first | omega | (simp; done) | (simp_all; done))
  clear hl hc
  refine Later.up [1, 2] [18, 32] [] (c.length - 1) (fun i => (List.range (i + 1)).all (stepAt m c)) (fun i => [(5, eI ((i + 1 : Nat) : Int))]) (fun _ => []) (by simp [stepAt]) ?_ rfl (fun i hi hI => ?_) (fun hI => ?_)
  · simp -dsimp -implicitDefEqProofs only [go_sem, ↓reduceIte, Nat.reduceEqDiff, Nat.reduceLT, Nat.reduceAdd, Nat.reduceMul, Nat.reduceLeDiff, Nat.le_refl, Int.natCast_zero, Int.toNat_natCast, Int.reduceToNat]
    all_goals (first | omega | (refine ⟨?_, ?_⟩ <;> omega) | (simp; done) | (simp; omega) | (refine ⟨?_, ?_⟩ <;> omega) | rfl | (simp; done) | (simp_all; done) | (simp_all; omega) | (exfalso; simp_all [bne]; done) | trace_state)
  · have hi1 : i + 1 < c.length := by omega
    have hi0 : i < c.length := by omega
    have no : stepAt m c (i + 1) = false → fault m c = 3 := fun h => by rw [hF, if_pos (range_all_no hi1 h)]
    have yes : stepAt m c (i + 1) = true → (List.range (i + 1 + 1)).all (stepAt m c) = true := fun h => by rw [range_all_succ, hI, h]; rfl
    have e1 := hel i hi0
    have e2 := hel (i + 1) hi1
    have g1 := get_some hi1
    have g2 : c[(((i + 1 : Nat) : Int) - 1).toNat]? = some c[i] := by rw [show (((i + 1 : Nat) : Int) - 1).toNat = i by omega]; exact get_some hi0
    have li := lt_len hi1
    have hs : stepAt m c (i + 1) = decide (absN (c[i + 1] - c[i]) ≤ m.step) := by
      rw [stepAt, show (i + 1 == 0) = false by simp]
      simp [List.getD_eq_getElem?_getD, hi0, hi1]
    rw [hs] at no yes
    have yes' : decide (absN (c[i + 1] - c[i]) > m.step) = false → (List.range (i + 1 + 1)).all (stepAt m c) = true := fun h => yes (decide_eq_true (by have := of_decide_eq_false h; omega))
    have no' : decide (absN (c[i + 1] - c[i]) > m.step) = true → fault m c = 3 := fun h => no (decide_eq_false (by have := of_decide_eq_true h; omega))
    have hab : absN (c[i + 1] - c[i]) ≤ 7 := by unfold absN; split <;> omega
    have hab0 : 0 ≤ absN (c[i + 1] - c[i]) := by unfold absN; split <;> omega
    clear hF hI hs
    simp -dsimp -implicitDefEqProofs only [pick_nil, pick_cons, look_nil, look_cons, dropB_nil, dropB_cons, inD_nil, inD_cons, inE_nil, inE_cons, or_t_l, or_f_l, Nat.reduceBEq, Nat.reduceDiv, Nat.reduceAdd, beq_self_eq_true, Bool.false_eq_true, Bool.or_false, ↓reduceIte, Nat.reduceEqDiff, List.cons_append, List.nil_append]
    simp -dsimp -implicitDefEqProofs only [go_sem, ↓reduceIte, Nat.reduceEqDiff, Nat.reduceLT, Nat.reduceAdd, Nat.reduceMul, Nat.reduceLeDiff, Nat.le_refl, Int.natCast_zero, Int.toNat_natCast, Int.reduceToNat, li, g1, g2]
    repeat' first
      | (refine Br.intro (fun _ => ?_) (fun _ => ?_) <;> try simp -dsimp -implicitDefEqProofs only [go_sem, ↓reduceIte, Nat.reduceEqDiff, Nat.reduceLT, Nat.reduceAdd, Nat.reduceMul, Nat.reduceLeDiff, Nat.le_refl, Int.natCast_zero, Int.toNat_natCast, Int.reduceToNat, *])
      | (with_reducible refine And.intro ?_ ?_)
      | (refine Later.draw mixed rfl ?_; try simp -dsimp -implicitDefEqProofs only [go_sem, ↓reduceIte, Nat.reduceEqDiff, Nat.reduceLT, Nat.reduceAdd, Nat.reduceMul, Nat.reduceLeDiff, Nat.le_refl, Int.natCast_zero, Int.toNat_natCast, Int.reduceToNat, li, g1, g2])
      | (refine sCallX_one (c_absolute _ (by omega)) ?_; try simp -dsimp -implicitDefEqProofs only [go_sem, ↓reduceIte, Nat.reduceEqDiff, Nat.reduceLT, Nat.reduceAdd, Nat.reduceMul, Nat.reduceLeDiff, Nat.le_refl, Int.natCast_zero, Int.toNat_natCast, Int.reduceToNat, *])
    all_goals first
      | (rw [no' (by assumption)]; done)
      | (exact yes' (by assumption))
      | (simp only [List.range_succ] at yes' ⊢; exact yes' (by assumption))
      | (first | omega | (refine ⟨?_, ?_⟩ <;> omega) | (simp; done) | (simp; omega) | (refine ⟨?_, ?_⟩ <;> omega) | rfl | (simp; done) | (simp_all; done) | (simp_all; omega) | (exfalso; simp_all [bne]; done) | trace_state)
  · have hcl : c.length - 1 + 1 = c.length := by omega
    rw [hcl] at hI ⊢
    rw [hI, if_neg (by decide)] at hF
    clear hel hI hcl
    simp -dsimp -implicitDefEqProofs only [pick_nil, pick_cons, look_nil, look_cons, dropB_nil, dropB_cons, inD_nil, inD_cons, inE_nil, inE_cons, or_t_l, or_f_l, Nat.reduceBEq, Nat.reduceDiv, Nat.reduceAdd, beq_self_eq_true, Bool.false_eq_true, Bool.or_false, ↓reduceIte, Nat.reduceEqDiff, List.cons_append, List.nil_append]
    simp -dsimp -implicitDefEqProofs only [go_sem, ↓reduceIte, Nat.reduceEqDiff, Nat.reduceLT, Nat.reduceAdd, Nat.reduceMul, Nat.reduceLeDiff, Nat.le_refl, Int.natCast_zero, Int.toNat_natCast, Int.reduceToNat, nlt_len]
    repeat' first
      | (refine Br.intro (fun _ => ?_) (fun _ => ?_) <;> try simp -dsimp -implicitDefEqProofs only [go_sem, ↓reduceIte, Nat.reduceEqDiff, Nat.reduceLT, Nat.reduceAdd, Nat.reduceMul, Nat.reduceLeDiff, Nat.le_refl, Int.natCast_zero, Int.toNat_natCast, Int.reduceToNat, *])
      | (with_reducible refine And.intro ?_ ?_)
    all_goals try (first | omega | rfl | (simp; done))
    refine Later.up [1, 2, 37] [45] [] c.length (fun i => (List.range i).all fun i => decide ((runAt c i : Int) ≤ m.same)) (fun i => [(38, eI i)]) (fun _ => []) (by simp) ?_ rfl (fun i hi hI => ?_) (fun hI => ?_)
    · simp -dsimp -implicitDefEqProofs only [go_sem, ↓reduceIte, Nat.reduceEqDiff, Nat.reduceLT, Nat.reduceAdd, Nat.reduceMul, Nat.reduceLeDiff, Nat.le_refl, Int.natCast_zero, Int.toNat_natCast, Int.reduceToNat]
      all_goals (first | omega | (refine ⟨?_, ?_⟩ <;> omega) | (simp; done) | (simp; omega) | (refine ⟨?_, ?_⟩ <;> omega) | rfl | (simp; done) | (simp_all; done) | (simp_all; omega) | (exfalso; simp_all [bne]; done) | trace_state)
    · have no : decide ((runAt c i : Int) ≤ m.same) = false → fault m c = 4 := fun h => by rw [hF, if_pos (range_all_no (p := fun i => decide ((runAt c i : Int) ≤ m.same)) hi h)]
      have yes : decide ((runAt c i : Int) ≤ m.same) = true → ((List.range (i + 1)).all fun i => decide ((runAt c i : Int) ≤ m.same)) = true := fun h => by rw [range_all_succ, hI, h]; rfl
      have yes' : decide ((runAt c i : Int) > m.same) = false → ((List.range (i + 1)).all fun i => decide ((runAt c i : Int) ≤ m.same)) = true := fun h => yes (decide_eq_true (by have := of_decide_eq_false h; omega))
      have no' : decide ((runAt c i : Int) > m.same) = true → fault m c = 4 := fun h => no (decide_eq_false (by have := of_decide_eq_true h; omega))
      have hrl := (runAt_spec c i).2.1
      have hcr := c_sameRun (c.take (i + 1)) (by simp; omega) (by simp; omega)
      have hll : (c.take (i + 1)).length - 1 = i := by simp; omega
      rw [hll, runAt_take c (i + 1) i (by omega)] at hcr
      have li := lt_len hi
      have e3 : ((i : Int) + 1).toNat = i + 1 := by omega
      clear hF hI no yes hll
      simp -dsimp -implicitDefEqProofs only [pick_nil, pick_cons, look_nil, look_cons, dropB_nil, dropB_cons, inD_nil, inD_cons, inE_nil, inE_cons, or_t_l, or_f_l, Nat.reduceBEq, Nat.reduceDiv, Nat.reduceAdd, beq_self_eq_true, Bool.false_eq_true, Bool.or_false, ↓reduceIte, Nat.reduceEqDiff, List.cons_append, List.nil_append]
      simp -dsimp -implicitDefEqProofs only [go_sem, ↓reduceIte, Nat.reduceEqDiff, Nat.reduceLT, Nat.reduceAdd, Nat.reduceMul, Nat.reduceLeDiff, Nat.le_refl, Int.natCast_zero, Int.toNat_natCast, Int.reduceToNat, li]
      repeat' first
        | (refine Br.intro (fun _ => ?_) (fun _ => ?_) <;> try simp -dsimp -implicitDefEqProofs only [go_sem, ↓reduceIte, Nat.reduceEqDiff, Nat.reduceLT, Nat.reduceAdd, Nat.reduceMul, Nat.reduceLeDiff, Nat.le_refl, Int.natCast_zero, Int.toNat_natCast, Int.reduceToNat, *])
        | (with_reducible refine And.intro ?_ ?_)
        | (refine Later.draw mixed rfl ?_; try simp -dsimp -implicitDefEqProofs only [go_sem, ↓reduceIte, Nat.reduceEqDiff, Nat.reduceLT, Nat.reduceAdd, Nat.reduceMul, Nat.reduceLeDiff, Nat.le_refl, Int.natCast_zero, Int.toNat_natCast, Int.reduceToNat, li, e3])
        | (rw [← List.map_take]; refine sCallX_one hcr ?_; try simp -dsimp -implicitDefEqProofs only [go_sem, ↓reduceIte, Nat.reduceEqDiff, Nat.reduceLT, Nat.reduceAdd, Nat.reduceMul, Nat.reduceLeDiff, Nat.le_refl, Int.natCast_zero, Int.toNat_natCast, Int.reduceToNat, *])
      all_goals first
        | (rw [no' (by assumption)]; done)
        | (exact yes' (by assumption))
        | (rw [← List.range_succ]; exact yes' (by assumption))
        | (first | omega | (refine ⟨?_, ?_⟩ <;> omega) | (simp; done) | (simp; omega) | (refine ⟨?_, ?_⟩ <;> omega) | rfl | (simp; done) | (simp_all; done) | (simp_all; omega) | (exfalso; simp_all [bne]; done) | trace_state)
    · rw [hI, if_neg (by decide)] at hF
      rw [hF]
      clear hF hI
      by_cases hk : (kindsTo c c.length : Int) < m.least
      all_goals
        have hk' := hk
        first | rw [if_pos hk] | rw [if_neg hk]
        first | replace hk' := decide_eq_true hk' | replace hk' := decide_eq_false hk'
        clear hk
        simp -dsimp -implicitDefEqProofs only [pick_nil, pick_cons, look_nil, look_cons, dropB_nil, dropB_cons, inD_nil, inD_cons, inE_nil, inE_cons, or_t_l, or_f_l, Nat.reduceBEq, Nat.reduceDiv, Nat.reduceAdd, beq_self_eq_true, Bool.false_eq_true, Bool.or_false, ↓reduceIte, Nat.reduceEqDiff, List.cons_append, List.nil_append]
        simp -dsimp -implicitDefEqProofs only [go_sem, ↓reduceIte, Nat.reduceEqDiff, Nat.reduceLT, Nat.reduceAdd, Nat.reduceMul, Nat.reduceLeDiff, Nat.le_refl, Int.natCast_zero, Int.toNat_natCast, Int.reduceToNat, nlt_len]
        repeat' first
          | (refine Br.intro (fun _ => ?_) (fun _ => ?_) <;> try simp -dsimp -implicitDefEqProofs only [go_sem, ↓reduceIte, Nat.reduceEqDiff, Nat.reduceLT, Nat.reduceAdd, Nat.reduceMul, Nat.reduceLeDiff, Nat.le_refl, Int.natCast_zero, Int.toNat_natCast, Int.reduceToNat, *])
          | (with_reducible refine And.intro ?_ ?_)
          | (refine Later.draw mixed rfl ?_; try simp -dsimp -implicitDefEqProofs only [go_sem, ↓reduceIte, Nat.reduceEqDiff, Nat.reduceLT, Nat.reduceAdd, Nat.reduceMul, Nat.reduceLeDiff, Nat.le_refl, Int.natCast_zero, Int.toNat_natCast, Int.reduceToNat, nlt_len, hk'])
          | (refine sCallX_one (c_different c h) ?_; try simp -dsimp -implicitDefEqProofs only [go_sem, ↓reduceIte, Nat.reduceEqDiff, Nat.reduceLT, Nat.reduceAdd, Nat.reduceMul, Nat.reduceLeDiff, Nat.le_refl, Int.natCast_zero, Int.toNat_natCast, Int.reduceToNat, *])
        all_goals (first | omega | (refine ⟨?_, ?_⟩ <;> omega) | (simp; done) | (simp; omega) | (refine ⟨?_, ?_⟩ <;> omega) | rfl | (simp; done) | (simp_all; done) | (simp_all; omega) | (exfalso; simp_all [bne]; done) | trace_state)
end Go.Vc
