/-
  Contracts: what the law on journals draws from a code.
-/
import Derived.Test.YtnmaeefcjdbpcaaDoorDrawJour
import Derived.Test.YtnmaeefcjdbpcaaDoorLike
set_option linter.unusedVariables false
set_option linter.unusedSimpArgs false
set_option linter.unnecessarySimpa false
namespace Go.Vc
open Go.Proofs
set_option maxRecDepth 100000
set_option maxHeartbeats 8000000 in
theorem c_DrawRecoverJournal (bs : List UInt8) (hl : bs.length ≤ 4096) : Fn Tryd.prog 36 [eYs bs] true (fun x => ∃ t : List UInt8, t.length ≤ 2001 ∧ x = eS t) := by
  refine Fn.nil ?_
  refine Fn.of_vc 6 [.tmp 2] Tryd.func36 rfl rfl rfl rfl rfl (of_decide_eq_true rfl) ?_
  simp -dsimp -implicitDefEqProofs only [go_sem, ↓reduceIte, Nat.reduceEqDiff, Nat.reduceLT, Nat.reduceAdd, Nat.reduceMul, Nat.reduceLeDiff, Nat.le_refl, Int.natCast_zero, Int.toNat_natCast, Int.reduceToNat]
  refine sCallT_inl 900000 34 [.tmp 2] Tryd.func67 rfl rfl rfl rfl rfl (by exact of_decide_eq_true rfl) ?_
  simp -dsimp -implicitDefEqProofs only [go_sem, ↓reduceIte, Nat.reduceEqDiff, Nat.reduceLT, Nat.reduceAdd, Nat.reduceMul, Nat.reduceLeDiff, Nat.le_refl, Int.natCast_zero, Int.toNat_natCast, Int.reduceToNat]
  refine Later.up [0, 3] [10] [7] (min bs.length 64) (fun _ => True) (fun i => [(4, eI i)]) (fun i => [(7, srcB 0 bs ⟨seedAt bs i, 0⟩)]) trivial ?_ rfl (fun i hi _ => ?_) (fun _ => ?_)
  · simp -dsimp -implicitDefEqProofs only [go_sem, ↓reduceIte, Nat.reduceEqDiff, Nat.reduceLT, Nat.reduceAdd, Nat.reduceMul, Nat.reduceLeDiff, Nat.le_refl, Int.natCast_zero, Int.toNat_natCast, Int.reduceToNat]
    simp [seedAt]
  · ((have h1 : i < bs.length := by omega); (have h2 : i < 64 := by omega); (have hs := seedAt_ok bs i); (have hb := (bs[i]).toNat_lt); (have d1 := lt_len h1); (have d2 : decide ((i : Int) < 64) = true := decide_eq_true (by omega)); (have g1 := get_some h1); (have e1 := seedAt_succ h1); simp -dsimp -implicitDefEqProofs only [pick_nil, pick_cons, look_nil, look_cons, dropB_nil, dropB_cons, inD_nil, inD_cons, inE_nil, inE_cons, or_t_l, or_f_l, Nat.reduceBEq, Nat.reduceDiv, Nat.reduceAdd, beq_self_eq_true, Bool.false_eq_true, Bool.or_false, ↓reduceIte, Nat.reduceEqDiff, List.cons_append, List.nil_append]; rw [e1]; generalize bs[i] = b at *; generalize seedAt bs i = z at *; simp -dsimp -implicitDefEqProofs only [go_sem, ↓reduceIte, Nat.reduceEqDiff, Nat.reduceLT, Nat.reduceAdd, Nat.reduceMul, Nat.reduceLeDiff, Nat.le_refl, Int.natCast_zero, Int.toNat_natCast, Int.reduceToNat, d1, d2]; refine Later.draw mixed rfl ?_; simp -dsimp -implicitDefEqProofs only [go_sem, ↓reduceIte, Nat.reduceEqDiff, Nat.reduceLT, Nat.reduceAdd, Nat.reduceMul, Nat.reduceLeDiff, Nat.le_refl, Int.natCast_zero, Int.toNat_natCast, Int.reduceToNat, g1]; (repeat' (with_reducible refine And.intro ?_ ?_)); all_goals (first | omega | (refine ⟨?_, ?_⟩ <;> omega) | (exact rfl) | (simp; done) | trace_state))
  (have hs := src0_ok bs); (have hq : (⟨seedAt bs (min bs.length 64), 0⟩ : Src) = src0 bs := rfl); rw [hq]; clear hq; generalize src0 bs = s at *; (have d64 : decide (((64 : Nat) : Int) < 64) = false := rfl)
  rcases Nat.lt_or_ge 64 bs.length with h64 | h64
  · rw [Nat.min_eq_right (Nat.le_of_lt h64)]; simp -dsimp -implicitDefEqProofs only [pick_nil, pick_cons, look_nil, look_cons, dropB_nil, dropB_cons, inD_nil, inD_cons, inE_nil, inE_cons, or_t_l, or_f_l, Nat.reduceBEq, Nat.reduceDiv, Nat.reduceAdd, beq_self_eq_true, Bool.false_eq_true, Bool.or_false, ↓reduceIte, Nat.reduceEqDiff, List.cons_append, List.nil_append]; simp -dsimp -implicitDefEqProofs only [go_sem, ↓reduceIte, Nat.reduceEqDiff, Nat.reduceLT, Nat.reduceAdd, Nat.reduceMul, Nat.reduceLeDiff, Nat.le_refl, Int.natCast_zero, Int.toNat_natCast, Int.reduceToNat, lt_len h64, d64]
    (refine sCallT_io [900007] ?_; simp -dsimp -implicitDefEqProofs only [go_sem, ↓reduceIte, Nat.reduceEqDiff, Nat.reduceLT, Nat.reduceAdd, Nat.reduceMul, Nat.reduceLeDiff, Nat.le_refl, Int.natCast_zero, Int.toNat_natCast, Int.reduceToNat]; refine sCallM_one (c_l31DrawText _ bs s hs hl) ?_; (have ho := textJ_ok bs hs); generalize textJ bs s = qq at *; obtain ⟨t, s1⟩ := qq; obtain ⟨o1, t1⟩ := ho; dsimp only at o1 t1; simp -dsimp -implicitDefEqProofs only [go_sem, ↓reduceIte, Nat.reduceEqDiff, Nat.reduceLT, Nat.reduceAdd, Nat.reduceMul, Nat.reduceLeDiff, Nat.le_refl, Int.natCast_zero, Int.toNat_natCast, Int.reduceToNat])
    repeat' (with_reducible refine And.intro ?_ ?_)
    all_goals try (first | omega | (refine ⟨?_, ?_⟩ <;> omega) | (exact rfl) | (simp; done))
    refine ⟨eS t, ?_, t, t1, rfl⟩
    simp -dsimp -implicitDefEqProofs only [go_sem, ↓reduceIte, Nat.reduceEqDiff, Nat.reduceLT, Nat.reduceAdd, Nat.reduceMul, Nat.reduceLeDiff, Nat.le_refl, Int.natCast_zero, Int.toNat_natCast, Int.reduceToNat]
    all_goals (first | omega | (rw [List.take_of_length_le (by simp)]; simp; done) | (refine ⟨?_, ?_⟩ <;> omega) | (exact rfl) | (simp; done) | (simp [*]; done) | trace_state)
  · rw [Nat.min_eq_left h64]; simp -dsimp -implicitDefEqProofs only [pick_nil, pick_cons, look_nil, look_cons, dropB_nil, dropB_cons, inD_nil, inD_cons, inE_nil, inE_cons, or_t_l, or_f_l, Nat.reduceBEq, Nat.reduceDiv, Nat.reduceAdd, beq_self_eq_true, Bool.false_eq_true, Bool.or_false, ↓reduceIte, Nat.reduceEqDiff, List.cons_append, List.nil_append]; simp -dsimp -implicitDefEqProofs only [go_sem, ↓reduceIte, Nat.reduceEqDiff, Nat.reduceLT, Nat.reduceAdd, Nat.reduceMul, Nat.reduceLeDiff, Nat.le_refl, Int.natCast_zero, Int.toNat_natCast, Int.reduceToNat, nlt_len]
    (refine sCallT_io [900007] ?_; simp -dsimp -implicitDefEqProofs only [go_sem, ↓reduceIte, Nat.reduceEqDiff, Nat.reduceLT, Nat.reduceAdd, Nat.reduceMul, Nat.reduceLeDiff, Nat.le_refl, Int.natCast_zero, Int.toNat_natCast, Int.reduceToNat]; refine sCallM_one (c_l31DrawText _ bs s hs hl) ?_; (have ho := textJ_ok bs hs); generalize textJ bs s = qq at *; obtain ⟨t, s1⟩ := qq; obtain ⟨o1, t1⟩ := ho; dsimp only at o1 t1; simp -dsimp -implicitDefEqProofs only [go_sem, ↓reduceIte, Nat.reduceEqDiff, Nat.reduceLT, Nat.reduceAdd, Nat.reduceMul, Nat.reduceLeDiff, Nat.le_refl, Int.natCast_zero, Int.toNat_natCast, Int.reduceToNat])
    repeat' (with_reducible refine And.intro ?_ ?_)
    all_goals try (first | omega | (refine ⟨?_, ?_⟩ <;> omega) | (exact rfl) | (simp; done))
    refine ⟨eS t, ?_, t, t1, rfl⟩
    simp -dsimp -implicitDefEqProofs only [go_sem, ↓reduceIte, Nat.reduceEqDiff, Nat.reduceLT, Nat.reduceAdd, Nat.reduceMul, Nat.reduceLeDiff, Nat.le_refl, Int.natCast_zero, Int.toNat_natCast, Int.reduceToNat]
    all_goals (first | omega | (rw [List.take_of_length_le (by simp)]; simp; done) | (refine ⟨?_, ?_⟩ <;> omega) | (exact rfl) | (simp; done) | (simp [*]; done) | trace_state)
set_option maxHeartbeats 8000000 in
theorem c_DrawJournalText (bs : List UInt8) (hl : bs.length ≤ 4096) : Fn Tryd.prog 35 [eYs bs] true (fun x => ∃ es : List EvM, es.length ≤ 61 ∧ x = eEvs es) := by
  refine Fn.nil ?_
  refine Fn.of_vc 6 [.tmp 2] Tryd.func35 rfl rfl rfl rfl rfl (of_decide_eq_true rfl) ?_
  simp -dsimp -implicitDefEqProofs only [go_sem, ↓reduceIte, Nat.reduceEqDiff, Nat.reduceLT, Nat.reduceAdd, Nat.reduceMul, Nat.reduceLeDiff, Nat.le_refl, Int.natCast_zero, Int.toNat_natCast, Int.reduceToNat]
  refine sCallT_inl 900000 34 [.tmp 2] Tryd.func67 rfl rfl rfl rfl rfl (by exact of_decide_eq_true rfl) ?_
  simp -dsimp -implicitDefEqProofs only [go_sem, ↓reduceIte, Nat.reduceEqDiff, Nat.reduceLT, Nat.reduceAdd, Nat.reduceMul, Nat.reduceLeDiff, Nat.le_refl, Int.natCast_zero, Int.toNat_natCast, Int.reduceToNat]
  refine Later.up [0, 3] [10] [7] (min bs.length 64) (fun _ => True) (fun i => [(4, eI i)]) (fun i => [(7, srcB 0 bs ⟨seedAt bs i, 0⟩)]) trivial ?_ rfl (fun i hi _ => ?_) (fun _ => ?_)
  · simp -dsimp -implicitDefEqProofs only [go_sem, ↓reduceIte, Nat.reduceEqDiff, Nat.reduceLT, Nat.reduceAdd, Nat.reduceMul, Nat.reduceLeDiff, Nat.le_refl, Int.natCast_zero, Int.toNat_natCast, Int.reduceToNat]
    simp [seedAt]
  · ((have h1 : i < bs.length := by omega); (have h2 : i < 64 := by omega); (have hs := seedAt_ok bs i); (have hb := (bs[i]).toNat_lt); (have d1 := lt_len h1); (have d2 : decide ((i : Int) < 64) = true := decide_eq_true (by omega)); (have g1 := get_some h1); (have e1 := seedAt_succ h1); simp -dsimp -implicitDefEqProofs only [pick_nil, pick_cons, look_nil, look_cons, dropB_nil, dropB_cons, inD_nil, inD_cons, inE_nil, inE_cons, or_t_l, or_f_l, Nat.reduceBEq, Nat.reduceDiv, Nat.reduceAdd, beq_self_eq_true, Bool.false_eq_true, Bool.or_false, ↓reduceIte, Nat.reduceEqDiff, List.cons_append, List.nil_append]; rw [e1]; generalize bs[i] = b at *; generalize seedAt bs i = z at *; simp -dsimp -implicitDefEqProofs only [go_sem, ↓reduceIte, Nat.reduceEqDiff, Nat.reduceLT, Nat.reduceAdd, Nat.reduceMul, Nat.reduceLeDiff, Nat.le_refl, Int.natCast_zero, Int.toNat_natCast, Int.reduceToNat, d1, d2]; refine Later.draw mixed rfl ?_; simp -dsimp -implicitDefEqProofs only [go_sem, ↓reduceIte, Nat.reduceEqDiff, Nat.reduceLT, Nat.reduceAdd, Nat.reduceMul, Nat.reduceLeDiff, Nat.le_refl, Int.natCast_zero, Int.toNat_natCast, Int.reduceToNat, g1]; (repeat' (with_reducible refine And.intro ?_ ?_)); all_goals (first | omega | (refine ⟨?_, ?_⟩ <;> omega) | (exact rfl) | (simp; done) | trace_state))
  (have hs := src0_ok bs); (have hq : (⟨seedAt bs (min bs.length 64), 0⟩ : Src) = src0 bs := rfl); rw [hq]; clear hq; generalize src0 bs = s at *; (have d64 : decide (((64 : Nat) : Int) < 64) = false := rfl)
  rcases Nat.lt_or_ge 64 bs.length with h64 | h64
  · rw [Nat.min_eq_right (Nat.le_of_lt h64)]; simp -dsimp -implicitDefEqProofs only [pick_nil, pick_cons, look_nil, look_cons, dropB_nil, dropB_cons, inD_nil, inD_cons, inE_nil, inE_cons, or_t_l, or_f_l, Nat.reduceBEq, Nat.reduceDiv, Nat.reduceAdd, beq_self_eq_true, Bool.false_eq_true, Bool.or_false, ↓reduceIte, Nat.reduceEqDiff, List.cons_append, List.nil_append]; simp -dsimp -implicitDefEqProofs only [go_sem, ↓reduceIte, Nat.reduceEqDiff, Nat.reduceLT, Nat.reduceAdd, Nat.reduceMul, Nat.reduceLeDiff, Nat.le_refl, Int.natCast_zero, Int.toNat_natCast, Int.reduceToNat, lt_len h64, d64]
    refine sCallT_io [900007] ?_
    simp -dsimp -implicitDefEqProofs only [go_sem, ↓reduceIte, Nat.reduceEqDiff, Nat.reduceLT, Nat.reduceAdd, Nat.reduceMul, Nat.reduceLeDiff, Nat.le_refl, Int.natCast_zero, Int.toNat_natCast, Int.reduceToNat]
    refine sCallM_one (c_l31Draw _ bs s hs hl) ?_
    have ho := drawJ_ok bs hs
    generalize drawJ bs s = qq at *
    obtain ⟨es, s1⟩ := qq
    obtain ⟨o1, t1⟩ := ho
    dsimp only at o1 t1
    simp -dsimp -implicitDefEqProofs only [go_sem, ↓reduceIte, Nat.reduceEqDiff, Nat.reduceLT, Nat.reduceAdd, Nat.reduceMul, Nat.reduceLeDiff, Nat.le_refl, Int.natCast_zero, Int.toNat_natCast, Int.reduceToNat]
    repeat' (with_reducible refine And.intro ?_ ?_)
    all_goals try (first | omega | (refine ⟨?_, ?_⟩ <;> omega) | (exact rfl) | (simp; done))
    refine ⟨eEvs es, ?_, es, t1, rfl⟩
    simp -dsimp -implicitDefEqProofs only [go_sem, ↓reduceIte, Nat.reduceEqDiff, Nat.reduceLT, Nat.reduceAdd, Nat.reduceMul, Nat.reduceLeDiff, Nat.le_refl, Int.natCast_zero, Int.toNat_natCast, Int.reduceToNat]
    all_goals (first | omega | (rw [List.take_of_length_le (by simp)]; simp; done) | (refine ⟨?_, ?_⟩ <;> omega) | (exact rfl) | (simp; done) | (simp [*]; done) | trace_state)
  · rw [Nat.min_eq_left h64]; simp -dsimp -implicitDefEqProofs only [pick_nil, pick_cons, look_nil, look_cons, dropB_nil, dropB_cons, inD_nil, inD_cons, inE_nil, inE_cons, or_t_l, or_f_l, Nat.reduceBEq, Nat.reduceDiv, Nat.reduceAdd, beq_self_eq_true, Bool.false_eq_true, Bool.or_false, ↓reduceIte, Nat.reduceEqDiff, List.cons_append, List.nil_append]; simp -dsimp -implicitDefEqProofs only [go_sem, ↓reduceIte, Nat.reduceEqDiff, Nat.reduceLT, Nat.reduceAdd, Nat.reduceMul, Nat.reduceLeDiff, Nat.le_refl, Int.natCast_zero, Int.toNat_natCast, Int.reduceToNat, nlt_len]
    refine sCallT_io [900007] ?_
    simp -dsimp -implicitDefEqProofs only [go_sem, ↓reduceIte, Nat.reduceEqDiff, Nat.reduceLT, Nat.reduceAdd, Nat.reduceMul, Nat.reduceLeDiff, Nat.le_refl, Int.natCast_zero, Int.toNat_natCast, Int.reduceToNat]
    refine sCallM_one (c_l31Draw _ bs s hs hl) ?_
    have ho := drawJ_ok bs hs
    generalize drawJ bs s = qq at *
    obtain ⟨es, s1⟩ := qq
    obtain ⟨o1, t1⟩ := ho
    dsimp only at o1 t1
    simp -dsimp -implicitDefEqProofs only [go_sem, ↓reduceIte, Nat.reduceEqDiff, Nat.reduceLT, Nat.reduceAdd, Nat.reduceMul, Nat.reduceLeDiff, Nat.le_refl, Int.natCast_zero, Int.toNat_natCast, Int.reduceToNat]
    repeat' (with_reducible refine And.intro ?_ ?_)
    all_goals try (first | omega | (refine ⟨?_, ?_⟩ <;> omega) | (exact rfl) | (simp; done))
    refine ⟨eEvs es, ?_, es, t1, rfl⟩
    simp -dsimp -implicitDefEqProofs only [go_sem, ↓reduceIte, Nat.reduceEqDiff, Nat.reduceLT, Nat.reduceAdd, Nat.reduceMul, Nat.reduceLeDiff, Nat.le_refl, Int.natCast_zero, Int.toNat_natCast, Int.reduceToNat]
    all_goals (first | omega | (rw [List.take_of_length_le (by simp)]; simp; done) | (refine ⟨?_, ?_⟩ <;> omega) | (exact rfl) | (simp; done) | (simp [*]; done) | trace_state)
end Go.Vc
