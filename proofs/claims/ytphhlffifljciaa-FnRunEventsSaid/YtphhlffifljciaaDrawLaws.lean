import Derived.Test.YtphhlffifljciaaDraws
import Derived.Test.YtphhlffifljciaaLike
/-
  Contracts: what the laws on registers draw from a code.
-/
set_option linter.unusedVariables false
set_option linter.unusedSimpArgs false
set_option linter.unnecessarySimpa false
namespace Go.Vc
open Go.Proofs
set_option maxRecDepth 100000
attribute [local irreducible] drawEvent drawEvents
theorem c_DrawIsPossible (bs : List UInt8) (hl : bs.length ≤ 4096) : Fn Try.prog 44 [eYs bs] true (fun x => ∃ (r : RegM) (e : EvM), r.tags.length ≤ 21 ∧ r.roles.length ≤ 10 ∧ x = .tup [eReg r, eEv e]) := by
  refine Fn.nil ?_
  refine Fn.of_vc 14 [.cell 2 40, .cell 3 42] Try.func44 rfl rfl rfl rfl rfl (of_decide_eq_true rfl) ?_
  simp -dsimp -implicitDefEqProofs only [go_sem, ↓reduceIte, Nat.reduceEqDiff, Nat.reduceLT, Nat.reduceAdd, Nat.reduceMul, Nat.reduceLeDiff, Nat.le_refl, Int.natCast_zero, Int.toNat_natCast, Int.reduceToNat]
  refine sCallT_inl 900000 34 [.tmp 2] Try.func50 rfl rfl rfl rfl rfl (by exact of_decide_eq_true rfl) ?_
  simp -dsimp -implicitDefEqProofs only [go_sem, ↓reduceIte, Nat.reduceEqDiff, Nat.reduceLT, Nat.reduceAdd, Nat.reduceMul, Nat.reduceLeDiff, Nat.le_refl, Int.natCast_zero, Int.toNat_natCast, Int.reduceToNat]
  refine Later.up [0, 3] [10] [7] (min bs.length 64) (fun _ => True) (fun i => [(4, eI i)]) (fun i => [(7, srcB 0 bs ⟨seedAt bs i, 0⟩)]) trivial ?_ rfl (fun i hi _ => ?_) (fun _ => ?_)
  · simp -dsimp -implicitDefEqProofs only [go_sem, ↓reduceIte, Nat.reduceEqDiff, Nat.reduceLT, Nat.reduceAdd, Nat.reduceMul, Nat.reduceLeDiff, Nat.le_refl, Int.natCast_zero, Int.toNat_natCast, Int.reduceToNat]
    simp [seedAt]
  · ((have h1 : i < bs.length := by omega); (have h2 : i < 64 := by omega); (have hs := seedAt_ok bs i); (have hb := (bs[i]).toNat_lt); (have d1 := lt_len h1); (have d2 : decide ((i : Int) < 64) = true := decide_eq_true (by omega)); (have g1 := get_some h1); (have e1 := seedAt_succ h1); simp -dsimp -implicitDefEqProofs only [pick_nil, pick_cons, look_nil, look_cons, dropB_nil, dropB_cons, inD_nil, inD_cons, inE_nil, inE_cons, or_t_l, or_f_l, Nat.reduceBEq, Nat.reduceDiv, Nat.reduceAdd, beq_self_eq_true, Bool.false_eq_true, Bool.or_false, ↓reduceIte, Nat.reduceEqDiff, List.cons_append, List.nil_append]; rw [e1]; generalize bs[i] = b at *; generalize seedAt bs i = z at *; simp -dsimp -implicitDefEqProofs only [go_sem, ↓reduceIte, Nat.reduceEqDiff, Nat.reduceLT, Nat.reduceAdd, Nat.reduceMul, Nat.reduceLeDiff, Nat.le_refl, Int.natCast_zero, Int.toNat_natCast, Int.reduceToNat, d1, d2]; refine Later.draw mixed rfl ?_; simp -dsimp -implicitDefEqProofs only [go_sem, ↓reduceIte, Nat.reduceEqDiff, Nat.reduceLT, Nat.reduceAdd, Nat.reduceMul, Nat.reduceLeDiff, Nat.le_refl, Int.natCast_zero, Int.toNat_natCast, Int.reduceToNat, g1]; (repeat' (with_reducible refine And.intro ?_ ?_)); all_goals (first | omega | (refine ⟨?_, ?_⟩ <;> omega) | (exact rfl) | (simp; done) | trace_state))
  (have hs := src0_ok bs); (have hq : (⟨seedAt bs (min bs.length 64), 0⟩ : Src) = src0 bs := rfl); rw [hq]; clear hq; generalize src0 bs = s at *; (have d64 : decide (((64 : Nat) : Int) < 64) = false := rfl)
  rcases Nat.lt_or_ge 64 bs.length with h64 | h64
  · rw [Nat.min_eq_right (Nat.le_of_lt h64)]; simp -dsimp -implicitDefEqProofs only [pick_nil, pick_cons, look_nil, look_cons, dropB_nil, dropB_cons, inD_nil, inD_cons, inE_nil, inE_cons, or_t_l, or_f_l, Nat.reduceBEq, Nat.reduceDiv, Nat.reduceAdd, beq_self_eq_true, Bool.false_eq_true, Bool.or_false, ↓reduceIte, Nat.reduceEqDiff, List.cons_append, List.nil_append]; simp -dsimp -implicitDefEqProofs only [go_sem, ↓reduceIte, Nat.reduceEqDiff, Nat.reduceLT, Nat.reduceAdd, Nat.reduceMul, Nat.reduceLeDiff, Nat.le_refl, Int.natCast_zero, Int.toNat_natCast, Int.reduceToNat, lt_len h64, d64]
    (refine sCallT_io [900007] ?_; simp -dsimp -implicitDefEqProofs only [go_sem, ↓reduceIte, Nat.reduceEqDiff, Nat.reduceLT, Nat.reduceAdd, Nat.reduceMul, Nat.reduceLeDiff, Nat.le_refl, Int.natCast_zero, Int.toNat_natCast, Int.reduceToNat]; refine sCallM_any (c_l30Draw _ bs s hs hl) ?_; rintro _ _ ⟨r, s1, o1, t1, t2, rfl, rfl⟩; simp -dsimp -implicitDefEqProofs only [go_sem, ↓reduceIte, Nat.reduceEqDiff, Nat.reduceLT, Nat.reduceAdd, Nat.reduceMul, Nat.reduceLeDiff, Nat.le_refl, Int.natCast_zero, Int.toNat_natCast, Int.reduceToNat]; refine Later.draw mixed rfl ?_; simp -dsimp -implicitDefEqProofs only [go_sem, ↓reduceIte, Nat.reduceEqDiff, Nat.reduceLT, Nat.reduceAdd, Nat.reduceMul, Nat.reduceLeDiff, Nat.le_refl, Int.natCast_zero, Int.toNat_natCast, Int.reduceToNat]; refine sCallX_io [900007, 10000, 10001] rfl ?_; simp -dsimp -implicitDefEqProofs only [go_sem, ↓reduceIte, Nat.reduceEqDiff, Nat.reduceLT, Nat.reduceAdd, Nat.reduceMul, Nat.reduceLeDiff, Nat.le_refl, Int.natCast_zero, Int.toNat_natCast, Int.reduceToNat]; refine sCallMX_one (c_l30DrawEvent _ _ _ _ _ bs r.tags r.roles s1 o1 hl (by omega) (by omega)) ?_; simp -dsimp -implicitDefEqProofs only [go_sem, ↓reduceIte, Nat.reduceEqDiff, Nat.reduceLT, Nat.reduceAdd, Nat.reduceMul, Nat.reduceLeDiff, Nat.le_refl, Int.natCast_zero, Int.toNat_natCast, Int.reduceToNat]; (repeat' (with_reducible refine And.intro ?_ ?_)); all_goals (first | omega | (refine ⟨?_, ?_⟩ <;> omega) | (exact rfl) | (simp; done) | (refine ⟨.tup [eReg r, eEv (drawEvent bs r.tags r.roles s1).1], ?_, r, (drawEvent bs r.tags r.roles s1).1, t1, t2, rfl⟩; simp -dsimp -implicitDefEqProofs only [go_sem, ↓reduceIte, Nat.reduceEqDiff, Nat.reduceLT, Nat.reduceAdd, Nat.reduceMul, Nat.reduceLeDiff, Nat.le_refl, Int.natCast_zero, Int.toNat_natCast, Int.reduceToNat]; all_goals (first | omega | (rw [List.take_of_length_le (by simp)]; simp; done) | (refine ⟨?_, ?_⟩ <;> omega) | (exact rfl) | (simp; done) | (simp [*]; done) | trace_state)) | trace_state))
  · rw [Nat.min_eq_left h64]; simp -dsimp -implicitDefEqProofs only [pick_nil, pick_cons, look_nil, look_cons, dropB_nil, dropB_cons, inD_nil, inD_cons, inE_nil, inE_cons, or_t_l, or_f_l, Nat.reduceBEq, Nat.reduceDiv, Nat.reduceAdd, beq_self_eq_true, Bool.false_eq_true, Bool.or_false, ↓reduceIte, Nat.reduceEqDiff, List.cons_append, List.nil_append]; simp -dsimp -implicitDefEqProofs only [go_sem, ↓reduceIte, Nat.reduceEqDiff, Nat.reduceLT, Nat.reduceAdd, Nat.reduceMul, Nat.reduceLeDiff, Nat.le_refl, Int.natCast_zero, Int.toNat_natCast, Int.reduceToNat, nlt_len]
    (refine sCallT_io [900007] ?_; simp -dsimp -implicitDefEqProofs only [go_sem, ↓reduceIte, Nat.reduceEqDiff, Nat.reduceLT, Nat.reduceAdd, Nat.reduceMul, Nat.reduceLeDiff, Nat.le_refl, Int.natCast_zero, Int.toNat_natCast, Int.reduceToNat]; refine sCallM_any (c_l30Draw _ bs s hs hl) ?_; rintro _ _ ⟨r, s1, o1, t1, t2, rfl, rfl⟩; simp -dsimp -implicitDefEqProofs only [go_sem, ↓reduceIte, Nat.reduceEqDiff, Nat.reduceLT, Nat.reduceAdd, Nat.reduceMul, Nat.reduceLeDiff, Nat.le_refl, Int.natCast_zero, Int.toNat_natCast, Int.reduceToNat]; refine Later.draw mixed rfl ?_; simp -dsimp -implicitDefEqProofs only [go_sem, ↓reduceIte, Nat.reduceEqDiff, Nat.reduceLT, Nat.reduceAdd, Nat.reduceMul, Nat.reduceLeDiff, Nat.le_refl, Int.natCast_zero, Int.toNat_natCast, Int.reduceToNat]; refine sCallX_io [900007, 10000, 10001] rfl ?_; simp -dsimp -implicitDefEqProofs only [go_sem, ↓reduceIte, Nat.reduceEqDiff, Nat.reduceLT, Nat.reduceAdd, Nat.reduceMul, Nat.reduceLeDiff, Nat.le_refl, Int.natCast_zero, Int.toNat_natCast, Int.reduceToNat]; refine sCallMX_one (c_l30DrawEvent _ _ _ _ _ bs r.tags r.roles s1 o1 hl (by omega) (by omega)) ?_; simp -dsimp -implicitDefEqProofs only [go_sem, ↓reduceIte, Nat.reduceEqDiff, Nat.reduceLT, Nat.reduceAdd, Nat.reduceMul, Nat.reduceLeDiff, Nat.le_refl, Int.natCast_zero, Int.toNat_natCast, Int.reduceToNat]; (repeat' (with_reducible refine And.intro ?_ ?_)); all_goals (first | omega | (refine ⟨?_, ?_⟩ <;> omega) | (exact rfl) | (simp; done) | (refine ⟨.tup [eReg r, eEv (drawEvent bs r.tags r.roles s1).1], ?_, r, (drawEvent bs r.tags r.roles s1).1, t1, t2, rfl⟩; simp -dsimp -implicitDefEqProofs only [go_sem, ↓reduceIte, Nat.reduceEqDiff, Nat.reduceLT, Nat.reduceAdd, Nat.reduceMul, Nat.reduceLeDiff, Nat.le_refl, Int.natCast_zero, Int.toNat_natCast, Int.reduceToNat]; all_goals (first | omega | (rw [List.take_of_length_le (by simp)]; simp; done) | (refine ⟨?_, ?_⟩ <;> omega) | (exact rfl) | (simp; done) | (simp [*]; done) | trace_state)) | trace_state))
theorem c_DrawApplyEvent (bs : List UInt8) (hl : bs.length ≤ 4096) : Fn Try.prog 12 [eYs bs] true (fun x => ∃ (r : RegM) (e : EvM), r.tags.length ≤ 21 ∧ r.roles.length ≤ 10 ∧ x = .tup [eReg r, eEv e]) := by
  refine Fn.nil ?_
  refine Fn.of_vc 8 [.cell 2 40, .cell 3 42] Try.func12 rfl rfl rfl rfl rfl (of_decide_eq_true rfl) ?_
  simp -dsimp -implicitDefEqProofs only [go_sem, ↓reduceIte, Nat.reduceEqDiff, Nat.reduceLT, Nat.reduceAdd, Nat.reduceMul, Nat.reduceLeDiff, Nat.le_refl, Int.natCast_zero, Int.toNat_natCast, Int.reduceToNat]
  refine sCallT_any (c_DrawIsPossible bs hl) ?_
  rintro _ ⟨r, e, t1, t2, rfl⟩
  simp -dsimp -implicitDefEqProofs only [go_sem, ↓reduceIte, Nat.reduceEqDiff, Nat.reduceLT, Nat.reduceAdd, Nat.reduceMul, Nat.reduceLeDiff, Nat.le_refl, Int.natCast_zero, Int.toNat_natCast, Int.reduceToNat]
  repeat' (with_reducible refine And.intro ?_ ?_)
  all_goals first
    | omega | (refine ⟨?_, ?_⟩ <;> omega) | (exact rfl) | (simp; done)
    | (refine ⟨.tup [eReg r, eEv e], ?_, r, e, t1, t2, rfl⟩; simp -dsimp -implicitDefEqProofs only [go_sem, ↓reduceIte, Nat.reduceEqDiff, Nat.reduceLT, Nat.reduceAdd, Nat.reduceMul, Nat.reduceLeDiff, Nat.le_refl, Int.natCast_zero, Int.toNat_natCast, Int.reduceToNat]; all_goals (first | omega | (rw [List.take_of_length_le (by simp)]; simp; done) | (refine ⟨?_, ?_⟩ <;> omega) | (exact rfl) | (simp; done) | (simp [*]; done) | trace_state))
    | trace_state
theorem c_DrawRunEvents (bs : List UInt8) (hl : bs.length ≤ 4096) : Fn Try.prog 23 [eYs bs] true (fun x => ∃ (r : RegM) (es : List EvM), r.tags.length ≤ 21 ∧ r.roles.length ≤ 10 ∧ es.length ≤ 61 ∧ x = .tup [eReg r, eEvs es]) := by
  refine Fn.nil ?_
  refine Fn.of_vc 14 [.cell 2 40, .tmp 3] Try.func23 rfl rfl rfl rfl rfl (of_decide_eq_true rfl) ?_
  simp -dsimp -implicitDefEqProofs only [go_sem, ↓reduceIte, Nat.reduceEqDiff, Nat.reduceLT, Nat.reduceAdd, Nat.reduceMul, Nat.reduceLeDiff, Nat.le_refl, Int.natCast_zero, Int.toNat_natCast, Int.reduceToNat]
  refine sCallT_inl 900000 34 [.tmp 2] Try.func50 rfl rfl rfl rfl rfl (by exact of_decide_eq_true rfl) ?_
  simp -dsimp -implicitDefEqProofs only [go_sem, ↓reduceIte, Nat.reduceEqDiff, Nat.reduceLT, Nat.reduceAdd, Nat.reduceMul, Nat.reduceLeDiff, Nat.le_refl, Int.natCast_zero, Int.toNat_natCast, Int.reduceToNat]
  refine Later.up [0, 3] [10] [7] (min bs.length 64) (fun _ => True) (fun i => [(4, eI i)]) (fun i => [(7, srcB 0 bs ⟨seedAt bs i, 0⟩)]) trivial ?_ rfl (fun i hi _ => ?_) (fun _ => ?_)
  · simp -dsimp -implicitDefEqProofs only [go_sem, ↓reduceIte, Nat.reduceEqDiff, Nat.reduceLT, Nat.reduceAdd, Nat.reduceMul, Nat.reduceLeDiff, Nat.le_refl, Int.natCast_zero, Int.toNat_natCast, Int.reduceToNat]
    simp [seedAt]
  · ((have h1 : i < bs.length := by omega); (have h2 : i < 64 := by omega); (have hs := seedAt_ok bs i); (have hb := (bs[i]).toNat_lt); (have d1 := lt_len h1); (have d2 : decide ((i : Int) < 64) = true := decide_eq_true (by omega)); (have g1 := get_some h1); (have e1 := seedAt_succ h1); simp -dsimp -implicitDefEqProofs only [pick_nil, pick_cons, look_nil, look_cons, dropB_nil, dropB_cons, inD_nil, inD_cons, inE_nil, inE_cons, or_t_l, or_f_l, Nat.reduceBEq, Nat.reduceDiv, Nat.reduceAdd, beq_self_eq_true, Bool.false_eq_true, Bool.or_false, ↓reduceIte, Nat.reduceEqDiff, List.cons_append, List.nil_append]; rw [e1]; generalize bs[i] = b at *; generalize seedAt bs i = z at *; simp -dsimp -implicitDefEqProofs only [go_sem, ↓reduceIte, Nat.reduceEqDiff, Nat.reduceLT, Nat.reduceAdd, Nat.reduceMul, Nat.reduceLeDiff, Nat.le_refl, Int.natCast_zero, Int.toNat_natCast, Int.reduceToNat, d1, d2]; refine Later.draw mixed rfl ?_; simp -dsimp -implicitDefEqProofs only [go_sem, ↓reduceIte, Nat.reduceEqDiff, Nat.reduceLT, Nat.reduceAdd, Nat.reduceMul, Nat.reduceLeDiff, Nat.le_refl, Int.natCast_zero, Int.toNat_natCast, Int.reduceToNat, g1]; (repeat' (with_reducible refine And.intro ?_ ?_)); all_goals (first | omega | (refine ⟨?_, ?_⟩ <;> omega) | (exact rfl) | (simp; done) | trace_state))
  (have hs := src0_ok bs); (have hq : (⟨seedAt bs (min bs.length 64), 0⟩ : Src) = src0 bs := rfl); rw [hq]; clear hq; generalize src0 bs = s at *; (have d64 : decide (((64 : Nat) : Int) < 64) = false := rfl)
  rcases Nat.lt_or_ge 64 bs.length with h64 | h64
  · rw [Nat.min_eq_right (Nat.le_of_lt h64)]; simp -dsimp -implicitDefEqProofs only [pick_nil, pick_cons, look_nil, look_cons, dropB_nil, dropB_cons, inD_nil, inD_cons, inE_nil, inE_cons, or_t_l, or_f_l, Nat.reduceBEq, Nat.reduceDiv, Nat.reduceAdd, beq_self_eq_true, Bool.false_eq_true, Bool.or_false, ↓reduceIte, Nat.reduceEqDiff, List.cons_append, List.nil_append]; simp -dsimp -implicitDefEqProofs only [go_sem, ↓reduceIte, Nat.reduceEqDiff, Nat.reduceLT, Nat.reduceAdd, Nat.reduceMul, Nat.reduceLeDiff, Nat.le_refl, Int.natCast_zero, Int.toNat_natCast, Int.reduceToNat, lt_len h64, d64]
    (refine sCallT_io [900007] ?_; simp -dsimp -implicitDefEqProofs only [go_sem, ↓reduceIte, Nat.reduceEqDiff, Nat.reduceLT, Nat.reduceAdd, Nat.reduceMul, Nat.reduceLeDiff, Nat.le_refl, Int.natCast_zero, Int.toNat_natCast, Int.reduceToNat]; refine sCallM_any (c_l30Draw _ bs s hs hl) ?_; rintro _ _ ⟨r, s1, o1, t1, t2, rfl, rfl⟩; simp -dsimp -implicitDefEqProofs only [go_sem, ↓reduceIte, Nat.reduceEqDiff, Nat.reduceLT, Nat.reduceAdd, Nat.reduceMul, Nat.reduceLeDiff, Nat.le_refl, Int.natCast_zero, Int.toNat_natCast, Int.reduceToNat]; (have hd := drawEvents_ok bs r o1); refine Later.draw mixed rfl ?_; simp -dsimp -implicitDefEqProofs only [go_sem, ↓reduceIte, Nat.reduceEqDiff, Nat.reduceLT, Nat.reduceAdd, Nat.reduceMul, Nat.reduceLeDiff, Nat.le_refl, Int.natCast_zero, Int.toNat_natCast, Int.reduceToNat]; refine sCallX_io [900007, 10000, 10001] rfl ?_; simp -dsimp -implicitDefEqProofs only [go_sem, ↓reduceIte, Nat.reduceEqDiff, Nat.reduceLT, Nat.reduceAdd, Nat.reduceMul, Nat.reduceLeDiff, Nat.le_refl, Int.natCast_zero, Int.toNat_natCast, Int.reduceToNat]; refine sCallMX_one (c_l30DrawEvents _ _ _ bs r s1 o1 hl (by omega) (by omega)) ?_; generalize drawEvents bs r s1 = q at *; simp -dsimp -implicitDefEqProofs only [go_sem, ↓reduceIte, Nat.reduceEqDiff, Nat.reduceLT, Nat.reduceAdd, Nat.reduceMul, Nat.reduceLeDiff, Nat.le_refl, Int.natCast_zero, Int.toNat_natCast, Int.reduceToNat]; (repeat' (with_reducible refine And.intro ?_ ?_)); all_goals (first | omega | (refine ⟨?_, ?_⟩ <;> omega) | (exact rfl) | (simp; done) | (refine ⟨.tup [eReg r, eEvs q.1], ?_, r, q.1, t1, t2, hd.2, rfl⟩; simp -dsimp -implicitDefEqProofs only [go_sem, ↓reduceIte, Nat.reduceEqDiff, Nat.reduceLT, Nat.reduceAdd, Nat.reduceMul, Nat.reduceLeDiff, Nat.le_refl, Int.natCast_zero, Int.toNat_natCast, Int.reduceToNat]; all_goals (first | omega | (rw [List.take_of_length_le (by simp)]; simp; done) | (refine ⟨?_, ?_⟩ <;> omega) | (exact rfl) | (simp; done) | (simp [*]; done) | trace_state)) | trace_state))
  · rw [Nat.min_eq_left h64]; simp -dsimp -implicitDefEqProofs only [pick_nil, pick_cons, look_nil, look_cons, dropB_nil, dropB_cons, inD_nil, inD_cons, inE_nil, inE_cons, or_t_l, or_f_l, Nat.reduceBEq, Nat.reduceDiv, Nat.reduceAdd, beq_self_eq_true, Bool.false_eq_true, Bool.or_false, ↓reduceIte, Nat.reduceEqDiff, List.cons_append, List.nil_append]; simp -dsimp -implicitDefEqProofs only [go_sem, ↓reduceIte, Nat.reduceEqDiff, Nat.reduceLT, Nat.reduceAdd, Nat.reduceMul, Nat.reduceLeDiff, Nat.le_refl, Int.natCast_zero, Int.toNat_natCast, Int.reduceToNat, nlt_len]
    (refine sCallT_io [900007] ?_; simp -dsimp -implicitDefEqProofs only [go_sem, ↓reduceIte, Nat.reduceEqDiff, Nat.reduceLT, Nat.reduceAdd, Nat.reduceMul, Nat.reduceLeDiff, Nat.le_refl, Int.natCast_zero, Int.toNat_natCast, Int.reduceToNat]; refine sCallM_any (c_l30Draw _ bs s hs hl) ?_; rintro _ _ ⟨r, s1, o1, t1, t2, rfl, rfl⟩; simp -dsimp -implicitDefEqProofs only [go_sem, ↓reduceIte, Nat.reduceEqDiff, Nat.reduceLT, Nat.reduceAdd, Nat.reduceMul, Nat.reduceLeDiff, Nat.le_refl, Int.natCast_zero, Int.toNat_natCast, Int.reduceToNat]; (have hd := drawEvents_ok bs r o1); refine Later.draw mixed rfl ?_; simp -dsimp -implicitDefEqProofs only [go_sem, ↓reduceIte, Nat.reduceEqDiff, Nat.reduceLT, Nat.reduceAdd, Nat.reduceMul, Nat.reduceLeDiff, Nat.le_refl, Int.natCast_zero, Int.toNat_natCast, Int.reduceToNat]; refine sCallX_io [900007, 10000, 10001] rfl ?_; simp -dsimp -implicitDefEqProofs only [go_sem, ↓reduceIte, Nat.reduceEqDiff, Nat.reduceLT, Nat.reduceAdd, Nat.reduceMul, Nat.reduceLeDiff, Nat.le_refl, Int.natCast_zero, Int.toNat_natCast, Int.reduceToNat]; refine sCallMX_one (c_l30DrawEvents _ _ _ bs r s1 o1 hl (by omega) (by omega)) ?_; generalize drawEvents bs r s1 = q at *; simp -dsimp -implicitDefEqProofs only [go_sem, ↓reduceIte, Nat.reduceEqDiff, Nat.reduceLT, Nat.reduceAdd, Nat.reduceMul, Nat.reduceLeDiff, Nat.le_refl, Int.natCast_zero, Int.toNat_natCast, Int.reduceToNat]; (repeat' (with_reducible refine And.intro ?_ ?_)); all_goals (first | omega | (refine ⟨?_, ?_⟩ <;> omega) | (exact rfl) | (simp; done) | (refine ⟨.tup [eReg r, eEvs q.1], ?_, r, q.1, t1, t2, hd.2, rfl⟩; simp -dsimp -implicitDefEqProofs only [go_sem, ↓reduceIte, Nat.reduceEqDiff, Nat.reduceLT, Nat.reduceAdd, Nat.reduceMul, Nat.reduceLeDiff, Nat.le_refl, Int.natCast_zero, Int.toNat_natCast, Int.reduceToNat]; all_goals (first | omega | (rw [List.take_of_length_le (by simp)]; simp; done) | (refine ⟨?_, ?_⟩ <;> omega) | (exact rfl) | (simp; done) | (simp [*]; done) | trace_state)) | trace_state))
theorem c_DrawCountStates (bs : List UInt8) (hl : bs.length ≤ 4096) : Fn Try.prog 26 [eYs bs] true (fun x => ∃ (r : RegM), r.tags.length ≤ 21 ∧ r.roles.length ≤ 10 ∧ x = eReg r) := by
  refine Fn.nil ?_
  refine Fn.of_vc 6 [.cell 2 40] Try.func26 rfl rfl rfl rfl rfl (of_decide_eq_true rfl) ?_
  simp -dsimp -implicitDefEqProofs only [go_sem, ↓reduceIte, Nat.reduceEqDiff, Nat.reduceLT, Nat.reduceAdd, Nat.reduceMul, Nat.reduceLeDiff, Nat.le_refl, Int.natCast_zero, Int.toNat_natCast, Int.reduceToNat]
  refine sCallT_inl 900000 34 [.tmp 2] Try.func50 rfl rfl rfl rfl rfl (by exact of_decide_eq_true rfl) ?_
  simp -dsimp -implicitDefEqProofs only [go_sem, ↓reduceIte, Nat.reduceEqDiff, Nat.reduceLT, Nat.reduceAdd, Nat.reduceMul, Nat.reduceLeDiff, Nat.le_refl, Int.natCast_zero, Int.toNat_natCast, Int.reduceToNat]
  refine Later.up [0, 3] [10] [7] (min bs.length 64) (fun _ => True) (fun i => [(4, eI i)]) (fun i => [(7, srcB 0 bs ⟨seedAt bs i, 0⟩)]) trivial ?_ rfl (fun i hi _ => ?_) (fun _ => ?_)
  · simp -dsimp -implicitDefEqProofs only [go_sem, ↓reduceIte, Nat.reduceEqDiff, Nat.reduceLT, Nat.reduceAdd, Nat.reduceMul, Nat.reduceLeDiff, Nat.le_refl, Int.natCast_zero, Int.toNat_natCast, Int.reduceToNat]
    simp [seedAt]
  · ((have h1 : i < bs.length := by omega); (have h2 : i < 64 := by omega); (have hs := seedAt_ok bs i); (have hb := (bs[i]).toNat_lt); (have d1 := lt_len h1); (have d2 : decide ((i : Int) < 64) = true := decide_eq_true (by omega)); (have g1 := get_some h1); (have e1 := seedAt_succ h1); simp -dsimp -implicitDefEqProofs only [pick_nil, pick_cons, look_nil, look_cons, dropB_nil, dropB_cons, inD_nil, inD_cons, inE_nil, inE_cons, or_t_l, or_f_l, Nat.reduceBEq, Nat.reduceDiv, Nat.reduceAdd, beq_self_eq_true, Bool.false_eq_true, Bool.or_false, ↓reduceIte, Nat.reduceEqDiff, List.cons_append, List.nil_append]; rw [e1]; generalize bs[i] = b at *; generalize seedAt bs i = z at *; simp -dsimp -implicitDefEqProofs only [go_sem, ↓reduceIte, Nat.reduceEqDiff, Nat.reduceLT, Nat.reduceAdd, Nat.reduceMul, Nat.reduceLeDiff, Nat.le_refl, Int.natCast_zero, Int.toNat_natCast, Int.reduceToNat, d1, d2]; refine Later.draw mixed rfl ?_; simp -dsimp -implicitDefEqProofs only [go_sem, ↓reduceIte, Nat.reduceEqDiff, Nat.reduceLT, Nat.reduceAdd, Nat.reduceMul, Nat.reduceLeDiff, Nat.le_refl, Int.natCast_zero, Int.toNat_natCast, Int.reduceToNat, g1]; (repeat' (with_reducible refine And.intro ?_ ?_)); all_goals (first | omega | (refine ⟨?_, ?_⟩ <;> omega) | (exact rfl) | (simp; done) | trace_state))
  (have hs := src0_ok bs); (have hq : (⟨seedAt bs (min bs.length 64), 0⟩ : Src) = src0 bs := rfl); rw [hq]; clear hq; generalize src0 bs = s at *; (have d64 : decide (((64 : Nat) : Int) < 64) = false := rfl)
  rcases Nat.lt_or_ge 64 bs.length with h64 | h64
  · rw [Nat.min_eq_right (Nat.le_of_lt h64)]; simp -dsimp -implicitDefEqProofs only [pick_nil, pick_cons, look_nil, look_cons, dropB_nil, dropB_cons, inD_nil, inD_cons, inE_nil, inE_cons, or_t_l, or_f_l, Nat.reduceBEq, Nat.reduceDiv, Nat.reduceAdd, beq_self_eq_true, Bool.false_eq_true, Bool.or_false, ↓reduceIte, Nat.reduceEqDiff, List.cons_append, List.nil_append]; simp -dsimp -implicitDefEqProofs only [go_sem, ↓reduceIte, Nat.reduceEqDiff, Nat.reduceLT, Nat.reduceAdd, Nat.reduceMul, Nat.reduceLeDiff, Nat.le_refl, Int.natCast_zero, Int.toNat_natCast, Int.reduceToNat, lt_len h64, d64]
    (refine sCallT_io [900007] ?_; simp -dsimp -implicitDefEqProofs only [go_sem, ↓reduceIte, Nat.reduceEqDiff, Nat.reduceLT, Nat.reduceAdd, Nat.reduceMul, Nat.reduceLeDiff, Nat.le_refl, Int.natCast_zero, Int.toNat_natCast, Int.reduceToNat]; refine sCallM_any (c_l30Draw _ bs s hs hl) ?_; rintro _ _ ⟨r, s1, o1, t1, t2, rfl, rfl⟩; simp -dsimp -implicitDefEqProofs only [go_sem, ↓reduceIte, Nat.reduceEqDiff, Nat.reduceLT, Nat.reduceAdd, Nat.reduceMul, Nat.reduceLeDiff, Nat.le_refl, Int.natCast_zero, Int.toNat_natCast, Int.reduceToNat]; (repeat' (with_reducible refine And.intro ?_ ?_)); all_goals (first | omega | (refine ⟨?_, ?_⟩ <;> omega) | (exact rfl) | (simp; done) | (refine ⟨eReg r, ?_, r, t1, t2, rfl⟩; simp -dsimp -implicitDefEqProofs only [go_sem, ↓reduceIte, Nat.reduceEqDiff, Nat.reduceLT, Nat.reduceAdd, Nat.reduceMul, Nat.reduceLeDiff, Nat.le_refl, Int.natCast_zero, Int.toNat_natCast, Int.reduceToNat]; all_goals (first | omega | (rw [List.take_of_length_le (by simp)]; simp; done) | (refine ⟨?_, ?_⟩ <;> omega) | (exact rfl) | (simp; done) | (simp [*]; done) | trace_state)) | trace_state))
  · rw [Nat.min_eq_left h64]; simp -dsimp -implicitDefEqProofs only [pick_nil, pick_cons, look_nil, look_cons, dropB_nil, dropB_cons, inD_nil, inD_cons, inE_nil, inE_cons, or_t_l, or_f_l, Nat.reduceBEq, Nat.reduceDiv, Nat.reduceAdd, beq_self_eq_true, Bool.false_eq_true, Bool.or_false, ↓reduceIte, Nat.reduceEqDiff, List.cons_append, List.nil_append]; simp -dsimp -implicitDefEqProofs only [go_sem, ↓reduceIte, Nat.reduceEqDiff, Nat.reduceLT, Nat.reduceAdd, Nat.reduceMul, Nat.reduceLeDiff, Nat.le_refl, Int.natCast_zero, Int.toNat_natCast, Int.reduceToNat, nlt_len]
    (refine sCallT_io [900007] ?_; simp -dsimp -implicitDefEqProofs only [go_sem, ↓reduceIte, Nat.reduceEqDiff, Nat.reduceLT, Nat.reduceAdd, Nat.reduceMul, Nat.reduceLeDiff, Nat.le_refl, Int.natCast_zero, Int.toNat_natCast, Int.reduceToNat]; refine sCallM_any (c_l30Draw _ bs s hs hl) ?_; rintro _ _ ⟨r, s1, o1, t1, t2, rfl, rfl⟩; simp -dsimp -implicitDefEqProofs only [go_sem, ↓reduceIte, Nat.reduceEqDiff, Nat.reduceLT, Nat.reduceAdd, Nat.reduceMul, Nat.reduceLeDiff, Nat.le_refl, Int.natCast_zero, Int.toNat_natCast, Int.reduceToNat]; (repeat' (with_reducible refine And.intro ?_ ?_)); all_goals (first | omega | (refine ⟨?_, ?_⟩ <;> omega) | (exact rfl) | (simp; done) | (refine ⟨eReg r, ?_, r, t1, t2, rfl⟩; simp -dsimp -implicitDefEqProofs only [go_sem, ↓reduceIte, Nat.reduceEqDiff, Nat.reduceLT, Nat.reduceAdd, Nat.reduceMul, Nat.reduceLeDiff, Nat.le_refl, Int.natCast_zero, Int.toNat_natCast, Int.reduceToNat]; all_goals (first | omega | (rw [List.take_of_length_le (by simp)]; simp; done) | (refine ⟨?_, ?_⟩ <;> omega) | (exact rfl) | (simp; done) | (simp [*]; done) | trace_state)) | trace_state))
end Go.Vc
/-
  Contracts: new registers that are drawn.
-/
set_option linter.unusedVariables false
set_option linter.unusedSimpArgs false
set_option linter.unnecessarySimpa false
namespace Go.Vc
open Go.Proofs
set_option maxRecDepth 100000
attribute [local irreducible] drawEvent drawEvents
theorem quo_in {x n : Int} (hx : 0 ≤ x) (hn : 0 < n) (h : x < n + 1) : 0 ≤ x.tdiv n ∧ x.tdiv n ≤ 1 := by
  refine ⟨Int.tdiv_nonneg hx (by omega), ?_⟩
  rw [Int.tdiv_eq_ediv_of_nonneg hx]
  have : x / n < 2 := Int.ediv_lt_of_lt_mul hn (by omega)
  omega
set_option maxHeartbeats 8000000 in
theorem c_DrawNewRegister (bs : List UInt8) (hl : bs.length ≤ 4096) : Fn Try.prog 17 [eYs bs] true (fun x => ∃ (rows roles : List Int), rows.length ≤ 21 ∧ roles.length ≤ 11 ∧ x = .tup [eIs rows, eIs roles]) := by
  refine Fn.nil ?_
  refine Fn.of_vc 63 [.tmp 2, .tmp 3] Try.func17 rfl rfl rfl rfl rfl (of_decide_eq_true rfl) ?_
  simp -dsimp -implicitDefEqProofs only [go_sem, ↓reduceIte, Nat.reduceEqDiff, Nat.reduceLT, Nat.reduceAdd, Nat.reduceMul, Nat.reduceLeDiff, Nat.le_refl, Int.natCast_zero, Int.toNat_natCast, Int.reduceToNat]
  refine sCallT_inl 900000 34 [.tmp 2] Try.func50 rfl rfl rfl rfl rfl (by exact of_decide_eq_true rfl) ?_
  simp -dsimp -implicitDefEqProofs only [go_sem, ↓reduceIte, Nat.reduceEqDiff, Nat.reduceLT, Nat.reduceAdd, Nat.reduceMul, Nat.reduceLeDiff, Nat.le_refl, Int.natCast_zero, Int.toNat_natCast, Int.reduceToNat]
  refine Later.up [0, 3] [10] [7] (min bs.length 64) (fun _ => True) (fun i => [(4, eI i)]) (fun i => [(7, srcB 0 bs ⟨seedAt bs i, 0⟩)]) trivial ?_ rfl (fun i hi _ => ?_) (fun _ => ?_)
  · simp -dsimp -implicitDefEqProofs only [go_sem, ↓reduceIte, Nat.reduceEqDiff, Nat.reduceLT, Nat.reduceAdd, Nat.reduceMul, Nat.reduceLeDiff, Nat.le_refl, Int.natCast_zero, Int.toNat_natCast, Int.reduceToNat]
    simp [seedAt]
  · ((have h1 : i < bs.length := by omega); (have h2 : i < 64 := by omega); (have hs := seedAt_ok bs i); (have hb := (bs[i]).toNat_lt); (have d1 := lt_len h1); (have d2 : decide ((i : Int) < 64) = true := decide_eq_true (by omega)); (have g1 := get_some h1); (have e1 := seedAt_succ h1); simp -dsimp -implicitDefEqProofs only [pick_nil, pick_cons, look_nil, look_cons, dropB_nil, dropB_cons, inD_nil, inD_cons, inE_nil, inE_cons, or_t_l, or_f_l, Nat.reduceBEq, Nat.reduceDiv, Nat.reduceAdd, beq_self_eq_true, Bool.false_eq_true, Bool.or_false, ↓reduceIte, Nat.reduceEqDiff, List.cons_append, List.nil_append]; rw [e1]; generalize bs[i] = b at *; generalize seedAt bs i = z at *; simp -dsimp -implicitDefEqProofs only [go_sem, ↓reduceIte, Nat.reduceEqDiff, Nat.reduceLT, Nat.reduceAdd, Nat.reduceMul, Nat.reduceLeDiff, Nat.le_refl, Int.natCast_zero, Int.toNat_natCast, Int.reduceToNat, d1, d2]; refine Later.draw mixed rfl ?_; simp -dsimp -implicitDefEqProofs only [go_sem, ↓reduceIte, Nat.reduceEqDiff, Nat.reduceLT, Nat.reduceAdd, Nat.reduceMul, Nat.reduceLeDiff, Nat.le_refl, Int.natCast_zero, Int.toNat_natCast, Int.reduceToNat, g1]; (repeat' (with_reducible refine And.intro ?_ ?_)); all_goals (first | omega | (refine ⟨?_, ?_⟩ <;> omega) | (exact rfl) | (simp; done) | trace_state))
  (have hs := src0_ok bs); (have hq : (⟨seedAt bs (min bs.length 64), 0⟩ : Src) = src0 bs := rfl); rw [hq]; clear hq; generalize src0 bs = s at *; (have d64 : decide (((64 : Nat) : Int) < 64) = false := rfl)
  rcases Nat.lt_or_ge 64 bs.length with h64 | h64
  · rw [Nat.min_eq_right (Nat.le_of_lt h64)]; simp -dsimp -implicitDefEqProofs only [pick_nil, pick_cons, look_nil, look_cons, dropB_nil, dropB_cons, inD_nil, inD_cons, inE_nil, inE_cons, or_t_l, or_f_l, Nat.reduceBEq, Nat.reduceDiv, Nat.reduceAdd, beq_self_eq_true, Bool.false_eq_true, Bool.or_false, ↓reduceIte, Nat.reduceEqDiff, List.cons_append, List.nil_append]; simp -dsimp -implicitDefEqProofs only [go_sem, ↓reduceIte, Nat.reduceEqDiff, Nat.reduceLT, Nat.reduceAdd, Nat.reduceMul, Nat.reduceLeDiff, Nat.le_refl, Int.natCast_zero, Int.toNat_natCast, Int.reduceToNat, lt_len h64, d64]
    have h1 := nx_ok bs 7 hs
    have h2 := h1.2.2.1 (by omega)
    repeat' (with_reducible refine And.intro ?_ ?_)
    all_goals try (first | omega | (refine ⟨?_, ?_⟩ <;> omega) | (simp; done) | (exact rfl) | decide)
    refine sCallT_io [900007] ?_; simp -dsimp -implicitDefEqProofs only [go_sem, ↓reduceIte, Nat.reduceEqDiff, Nat.reduceLT, Nat.reduceAdd, Nat.reduceMul, Nat.reduceLeDiff, Nat.le_refl, Int.natCast_zero, Int.toNat_natCast, Int.reduceToNat]; refine sCallM_one (c_l01Next _ bs 7 _ hs hl) ?_; simp -dsimp -implicitDefEqProofs only [go_sem, ↓reduceIte, Nat.reduceEqDiff, Nat.reduceLT, Nat.reduceAdd, Nat.reduceMul, Nat.reduceLeDiff, Nat.le_refl, Int.natCast_zero, Int.toNat_natCast, Int.reduceToNat]
    generalize nx bs 7 s = a at *
    refine Later.lp [4, 6] [21, 23, 27, 30, 31] [11, 900007] (fun x : Nat × List Int × Src => SrcOk x.2.2 ∧ x.1 + x.2.1.length ≤ 6)
      (fun x => [(7, eI x.1), (5, .ref 11 0 0 x.2.1.length)]) (fun x => [(11, .row 0 ⟨1, false⟩ true (x.2.1.map eI)), (900007, srcB 0 bs x.2.2)]) (fun x => x.1) (a.1.toNat, [], a.2) ⟨h1.2.2.2, by simp; omega⟩ ?_ rfl (fun x hI => ?_)
    · dsimp only
      rw [show ((a.1.toNat : Nat) : Int) = a.1 by omega]
      simp -dsimp -implicitDefEqProofs only [go_sem, ↓reduceIte, Nat.reduceEqDiff, Nat.reduceLT, Nat.reduceAdd, Nat.reduceMul, Nat.reduceLeDiff, Nat.le_refl, Int.natCast_zero, Int.toNat_natCast, Int.reduceToNat]
      all_goals try (first | omega | (refine ⟨?_, ?_⟩ <;> omega) | (simp; done) | (exact rfl) | decide)
    · obtain ⟨k, rows, s⟩ := x
      obtain ⟨q1, q2⟩ := hI
      dsimp only at q1 q2 ⊢
      clear h1 h2 hs
      cases k with
      | zero =>
        have hk0 : decide ((0 : Int) > 0) = false := rfl
        have g1 := nx_ok bs 4 q1
        have g2 := g1.2.2.1 (by omega)
        have hcn := fun v => c_l01Next v bs 4 s q1 hl
        generalize nx bs 4 s = b at *
        simp -dsimp -implicitDefEqProofs only [pick_nil, pick_cons, look_nil, look_cons, dropB_nil, dropB_cons, inD_nil, inD_cons, inE_nil, inE_cons, or_t_l, or_f_l, Nat.reduceBEq, Nat.reduceDiv, Nat.reduceAdd, beq_self_eq_true, Bool.false_eq_true, Bool.or_false, ↓reduceIte, Nat.reduceEqDiff, List.cons_append, List.nil_append]
        simp -dsimp -implicitDefEqProofs only [go_sem, ↓reduceIte, Nat.reduceEqDiff, Nat.reduceLT, Nat.reduceAdd, Nat.reduceMul, Nat.reduceLeDiff, Nat.le_refl, Int.natCast_zero, Int.toNat_natCast, Int.reduceToNat, hk0]
        refine sCallT_io [900007] ?_; simp -dsimp -implicitDefEqProofs only [go_sem, ↓reduceIte, Nat.reduceEqDiff, Nat.reduceLT, Nat.reduceAdd, Nat.reduceMul, Nat.reduceLeDiff, Nat.le_refl, Int.natCast_zero, Int.toNat_natCast, Int.reduceToNat]; refine sCallM_one (hcn _) ?_; simp -dsimp -implicitDefEqProofs only [go_sem, ↓reduceIte, Nat.reduceEqDiff, Nat.reduceLT, Nat.reduceAdd, Nat.reduceMul, Nat.reduceLeDiff, Nat.le_refl, Int.natCast_zero, Int.toNat_natCast, Int.reduceToNat]
        refine Later.lp [4, 5] [40, 42, 45, 46] [12, 900007] (fun x : Nat × List Int × Src => SrcOk x.2.2 ∧ x.1 + x.2.1.length ≤ 3)
          (fun x => [(8, eI x.1), (6, .ref 12 0 0 x.2.1.length)]) (fun x => [(12, .row 0 ⟨1, false⟩ true (x.2.1.map eI)), (900007, srcB 0 bs x.2.2)]) (fun x => x.1) (b.1.toNat, [], b.2) ⟨g1.2.2.2, by simp; omega⟩ ?_ rfl (fun x hI => ?_)
        · dsimp only
          rw [show ((b.1.toNat : Nat) : Int) = b.1 by omega]
          simp -dsimp -implicitDefEqProofs only [go_sem, ↓reduceIte, Nat.reduceEqDiff, Nat.reduceLT, Nat.reduceAdd, Nat.reduceMul, Nat.reduceLeDiff, Nat.le_refl, Int.natCast_zero, Int.toNat_natCast, Int.reduceToNat]
          all_goals try (first | omega | (refine ⟨?_, ?_⟩ <;> omega) | (simp; done) | (exact rfl) | decide)
        · obtain ⟨k, roles, s⟩ := x
          obtain ⟨p1, p2⟩ := hI
          dsimp only at p1 p2 ⊢
          clear g1 g2 hcn q1
          cases k with
          | zero =>
            have hk0 : decide ((0 : Int) > 0) = false := rfl
            have g1 := nx_ok bs 24 p1
            have hcn := fun v => c_l01Next v bs 24 s p1 hl
            generalize nx bs 24 s = c at *
            simp -dsimp -implicitDefEqProofs only [pick_nil, pick_cons, look_nil, look_cons, dropB_nil, dropB_cons, inD_nil, inD_cons, inE_nil, inE_cons, or_t_l, or_f_l, Nat.reduceBEq, Nat.reduceDiv, Nat.reduceAdd, beq_self_eq_true, Bool.false_eq_true, Bool.or_false, ↓reduceIte, Nat.reduceEqDiff, List.cons_append, List.nil_append]
            simp -dsimp -implicitDefEqProofs only [go_sem, ↓reduceIte, Nat.reduceEqDiff, Nat.reduceLT, Nat.reduceAdd, Nat.reduceMul, Nat.reduceLeDiff, Nat.le_refl, Int.natCast_zero, Int.toNat_natCast, Int.reduceToNat, hk0]
            refine sCallT_io [900007] ?_; simp -dsimp -implicitDefEqProofs only [go_sem, ↓reduceIte, Nat.reduceEqDiff, Nat.reduceLT, Nat.reduceAdd, Nat.reduceMul, Nat.reduceLeDiff, Nat.le_refl, Int.natCast_zero, Int.toNat_natCast, Int.reduceToNat]; refine sCallM_one (hcn _) ?_; simp -dsimp -implicitDefEqProofs only [go_sem, ↓reduceIte, Nat.reduceEqDiff, Nat.reduceLT, Nat.reduceAdd, Nat.reduceMul, Nat.reduceLeDiff, Nat.le_refl, Int.natCast_zero, Int.toNat_natCast, Int.reduceToNat]
            have c1 := nx_ok bs 2 g1.2.2.2
            have c2 := c1.2.2.1 (by omega)
            have hcn2 := fun v => c_l01Next v bs 2 c.2 g1.2.2.2 hl
            generalize nx bs 2 c.2 = d at *
            rcases hc0 : (c.1 == 0) with _ | _
            · rcases hc1 : (c.1 == 1) with _ | _
              · simp -dsimp -implicitDefEqProofs only [go_sem, ↓reduceIte, Nat.reduceEqDiff, Nat.reduceLT, Nat.reduceAdd, Nat.reduceMul, Nat.reduceLeDiff, Nat.le_refl, Int.natCast_zero, Int.toNat_natCast, Int.reduceToNat, hc0, hc1]
                repeat' (with_reducible refine And.intro ?_ ?_)
                all_goals try (first | omega | (refine ⟨?_, ?_⟩ <;> omega) | (simp; done) | (exact rfl) | decide)
                refine ⟨.tup [eIs rows, eIs roles], ?_, rows, roles, by omega, by omega, rfl⟩
                simp -dsimp -implicitDefEqProofs only [go_sem, ↓reduceIte, Nat.reduceEqDiff, Nat.reduceLT, Nat.reduceAdd, Nat.reduceMul, Nat.reduceLeDiff, Nat.le_refl, Int.natCast_zero, Int.toNat_natCast, Int.reduceToNat]
                all_goals (first | omega | (rw [List.take_of_length_le (by simp)]; simp; done) | (refine ⟨?_, ?_⟩ <;> omega) | (exact rfl) | (simp; done) | (simp [*]; done) | trace_state)
              · simp -dsimp -implicitDefEqProofs only [go_sem, ↓reduceIte, Nat.reduceEqDiff, Nat.reduceLT, Nat.reduceAdd, Nat.reduceMul, Nat.reduceLeDiff, Nat.le_refl, Int.natCast_zero, Int.toNat_natCast, Int.reduceToNat, hc0, hc1]
                refine sCallT_io [900007] ?_; simp -dsimp -implicitDefEqProofs only [go_sem, ↓reduceIte, Nat.reduceEqDiff, Nat.reduceLT, Nat.reduceAdd, Nat.reduceMul, Nat.reduceLeDiff, Nat.le_refl, Int.natCast_zero, Int.toNat_natCast, Int.reduceToNat]; refine sCallM_one (hcn2 _) ?_; simp -dsimp -implicitDefEqProofs only [go_sem, ↓reduceIte, Nat.reduceEqDiff, Nat.reduceLT, Nat.reduceAdd, Nat.reduceMul, Nat.reduceLeDiff, Nat.le_refl, Int.natCast_zero, Int.toNat_natCast, Int.reduceToNat]
                repeat' (with_reducible refine And.intro ?_ ?_)
                all_goals try (first | omega | (refine ⟨?_, ?_⟩ <;> omega) | (simp; done) | (exact rfl) | decide)
                refine ⟨.tup [eIs rows, eIs (List.replicate (10 + d.1).toNat 0)], ?_, rows, _, by omega, by rw [List.length_replicate]; omega, rfl⟩
                simp -dsimp -implicitDefEqProofs only [go_sem, ↓reduceIte, Nat.reduceEqDiff, Nat.reduceLT, Nat.reduceAdd, Nat.reduceMul, Nat.reduceLeDiff, Nat.le_refl, Int.natCast_zero, Int.toNat_natCast, Int.reduceToNat]
                all_goals (first | omega | (rw [List.take_of_length_le (by simp)]; simp; done) | (refine ⟨?_, ?_⟩ <;> omega) | (exact rfl) | (simp; done) | (simp [*]; done) | trace_state)
            · simp -dsimp -implicitDefEqProofs only [go_sem, ↓reduceIte, Nat.reduceEqDiff, Nat.reduceLT, Nat.reduceAdd, Nat.reduceMul, Nat.reduceLeDiff, Nat.le_refl, Int.natCast_zero, Int.toNat_natCast, Int.reduceToNat, hc0]
              refine sCallT_io [900007] ?_; simp -dsimp -implicitDefEqProofs only [go_sem, ↓reduceIte, Nat.reduceEqDiff, Nat.reduceLT, Nat.reduceAdd, Nat.reduceMul, Nat.reduceLeDiff, Nat.le_refl, Int.natCast_zero, Int.toNat_natCast, Int.reduceToNat]; refine sCallM_one (hcn2 _) ?_; simp -dsimp -implicitDefEqProofs only [go_sem, ↓reduceIte, Nat.reduceEqDiff, Nat.reduceLT, Nat.reduceAdd, Nat.reduceMul, Nat.reduceLeDiff, Nat.le_refl, Int.natCast_zero, Int.toNat_natCast, Int.reduceToNat]
              repeat' (with_reducible refine And.intro ?_ ?_)
              all_goals try (first | omega | (refine ⟨?_, ?_⟩ <;> omega) | (simp; done) | (exact rfl) | decide)
              refine ⟨.tup [eIs (List.replicate (20 + d.1).toNat 0), eIs roles], ?_, _, roles, by rw [List.length_replicate]; omega, by omega, rfl⟩
              simp -dsimp -implicitDefEqProofs only [go_sem, ↓reduceIte, Nat.reduceEqDiff, Nat.reduceLT, Nat.reduceAdd, Nat.reduceMul, Nat.reduceLeDiff, Nat.le_refl, Int.natCast_zero, Int.toNat_natCast, Int.reduceToNat]
              all_goals (first | omega | (rw [List.take_of_length_le (by simp)]; simp; done) | (refine ⟨?_, ?_⟩ <;> omega) | (exact rfl) | (simp; done) | (simp [*]; done) | trace_state)
          | succ k =>
            have hk0 : decide (((k + 1 : Nat) : Int) > 0) = true := decide_eq_true (by omega)
            have g1 := nx_ok bs 3 p1
            have g2 := g1.2.2.1 (by omega)
            have hcn := fun v => c_l01Next v bs 3 s p1 hl
            generalize nx bs 3 s = c at *
            have e1 := nx_ok bs 30 g1.2.2.2
            have e2 := e1.2.2.1 (by omega)
            have hcn2 := fun v => c_l01Next v bs 30 c.2 g1.2.2.2 hl
            generalize nx bs 30 c.2 = d at *
            have qd := quo_in (n := 29) e1.1 (by omega) (by omega)
            simp -dsimp -implicitDefEqProofs only [pick_nil, pick_cons, look_nil, look_cons, dropB_nil, dropB_cons, inD_nil, inD_cons, inE_nil, inE_cons, or_t_l, or_f_l, Nat.reduceBEq, Nat.reduceDiv, Nat.reduceAdd, beq_self_eq_true, Bool.false_eq_true, Bool.or_false, ↓reduceIte, Nat.reduceEqDiff, List.cons_append, List.nil_append]
            simp -dsimp -implicitDefEqProofs only [go_sem, ↓reduceIte, Nat.reduceEqDiff, Nat.reduceLT, Nat.reduceAdd, Nat.reduceMul, Nat.reduceLeDiff, Nat.le_refl, Int.natCast_zero, Int.toNat_natCast, Int.reduceToNat, hk0]
            refine sCallT_io [900007] ?_; simp -dsimp -implicitDefEqProofs only [go_sem, ↓reduceIte, Nat.reduceEqDiff, Nat.reduceLT, Nat.reduceAdd, Nat.reduceMul, Nat.reduceLeDiff, Nat.le_refl, Int.natCast_zero, Int.toNat_natCast, Int.reduceToNat]; refine sCallM_one (hcn _) ?_; simp -dsimp -implicitDefEqProofs only [go_sem, ↓reduceIte, Nat.reduceEqDiff, Nat.reduceLT, Nat.reduceAdd, Nat.reduceMul, Nat.reduceLeDiff, Nat.le_refl, Int.natCast_zero, Int.toNat_natCast, Int.reduceToNat]
            refine sCallT_io [900007] ?_; simp -dsimp -implicitDefEqProofs only [go_sem, ↓reduceIte, Nat.reduceEqDiff, Nat.reduceLT, Nat.reduceAdd, Nat.reduceMul, Nat.reduceLeDiff, Nat.le_refl, Int.natCast_zero, Int.toNat_natCast, Int.reduceToNat]; refine sCallM_one (hcn2 _) ?_; simp -dsimp -implicitDefEqProofs only [go_sem, ↓reduceIte, Nat.reduceEqDiff, Nat.reduceLT, Nat.reduceAdd, Nat.reduceMul, Nat.reduceLeDiff, Nat.le_refl, Int.natCast_zero, Int.toNat_natCast, Int.reduceToNat]
            generalize d.1.tdiv 29 = qq at *
            repeat' (with_reducible refine And.intro ?_ ?_)
            all_goals try (first | omega | (refine ⟨?_, ?_⟩ <;> omega) | (simp; done) | (exact rfl) | decide)
            refine ⟨(k, roles ++ [c.1 + qq], d.2), ⟨e1.2.2.2, by simp; omega⟩, Nat.lt_succ_self k, ?_⟩
            simp -dsimp -implicitDefEqProofs only [go_sem, ↓reduceIte, Nat.reduceEqDiff, Nat.reduceLT, Nat.reduceAdd, Nat.reduceMul, Nat.reduceLeDiff, Nat.le_refl, Int.natCast_zero, Int.toNat_natCast, Int.reduceToNat]
            all_goals (first | omega | (rw [List.take_of_length_le (by simp)]; simp; done) | (refine ⟨?_, ?_⟩ <;> omega) | (exact rfl) | (simp; done) | (simp [*]; done) | trace_state)
      | succ k =>
        have hk0 : decide (((k + 1 : Nat) : Int) > 0) = true := decide_eq_true (by omega)
        have g1 := nx_ok bs 10 q1
        have g2 := g1.2.2.1 (by omega)
        have hcn := fun v => c_l01Next v bs 10 s q1 hl
        generalize nx bs 10 s = c at *
        have e1 := nx_ok bs 40 g1.2.2.2
        have e2 := e1.2.2.1 (by omega)
        have hcn2 := fun v => c_l01Next v bs 40 c.2 g1.2.2.2 hl
        generalize nx bs 40 c.2 = d at *
        have f1 := nx_ok bs 40 e1.2.2.2
        have f2 := f1.2.2.1 (by omega)
        have hcn3 := fun v => c_l01Next v bs 40 d.2 e1.2.2.2 hl
        generalize nx bs 40 d.2 = e at *
        have qd := quo_in (n := 39) e1.1 (by omega) (by omega)
        have qe := quo_in (n := 39) f1.1 (by omega) (by omega)
        simp -dsimp -implicitDefEqProofs only [pick_nil, pick_cons, look_nil, look_cons, dropB_nil, dropB_cons, inD_nil, inD_cons, inE_nil, inE_cons, or_t_l, or_f_l, Nat.reduceBEq, Nat.reduceDiv, Nat.reduceAdd, beq_self_eq_true, Bool.false_eq_true, Bool.or_false, ↓reduceIte, Nat.reduceEqDiff, List.cons_append, List.nil_append]
        simp -dsimp -implicitDefEqProofs only [go_sem, ↓reduceIte, Nat.reduceEqDiff, Nat.reduceLT, Nat.reduceAdd, Nat.reduceMul, Nat.reduceLeDiff, Nat.le_refl, Int.natCast_zero, Int.toNat_natCast, Int.reduceToNat, hk0]
        refine sCallT_io [900007] ?_; simp -dsimp -implicitDefEqProofs only [go_sem, ↓reduceIte, Nat.reduceEqDiff, Nat.reduceLT, Nat.reduceAdd, Nat.reduceMul, Nat.reduceLeDiff, Nat.le_refl, Int.natCast_zero, Int.toNat_natCast, Int.reduceToNat]; refine sCallM_one (hcn _) ?_; simp -dsimp -implicitDefEqProofs only [go_sem, ↓reduceIte, Nat.reduceEqDiff, Nat.reduceLT, Nat.reduceAdd, Nat.reduceMul, Nat.reduceLeDiff, Nat.le_refl, Int.natCast_zero, Int.toNat_natCast, Int.reduceToNat]
        refine sCallT_io [900007] ?_; simp -dsimp -implicitDefEqProofs only [go_sem, ↓reduceIte, Nat.reduceEqDiff, Nat.reduceLT, Nat.reduceAdd, Nat.reduceMul, Nat.reduceLeDiff, Nat.le_refl, Int.natCast_zero, Int.toNat_natCast, Int.reduceToNat]; refine sCallM_one (hcn2 _) ?_; simp -dsimp -implicitDefEqProofs only [go_sem, ↓reduceIte, Nat.reduceEqDiff, Nat.reduceLT, Nat.reduceAdd, Nat.reduceMul, Nat.reduceLeDiff, Nat.le_refl, Int.natCast_zero, Int.toNat_natCast, Int.reduceToNat]
        repeat' (with_reducible refine And.intro ?_ ?_)
        all_goals try (first | omega | (refine ⟨?_, ?_⟩ <;> omega) | (simp; done) | (exact rfl) | decide)
        refine sCallT_io [900007] ?_; simp -dsimp -implicitDefEqProofs only [go_sem, ↓reduceIte, Nat.reduceEqDiff, Nat.reduceLT, Nat.reduceAdd, Nat.reduceMul, Nat.reduceLeDiff, Nat.le_refl, Int.natCast_zero, Int.toNat_natCast, Int.reduceToNat]; refine sCallM_one (hcn3 _) ?_; simp -dsimp -implicitDefEqProofs only [go_sem, ↓reduceIte, Nat.reduceEqDiff, Nat.reduceLT, Nat.reduceAdd, Nat.reduceMul, Nat.reduceLeDiff, Nat.le_refl, Int.natCast_zero, Int.toNat_natCast, Int.reduceToNat]
        generalize d.1.tdiv 39 = qq at *
        generalize e.1.tdiv 39 = qr at *
        repeat' (with_reducible refine And.intro ?_ ?_)
        all_goals try (first | omega | (refine ⟨?_, ?_⟩ <;> omega) | (simp; done) | (exact rfl) | decide)
        refine ⟨(k, rows ++ [c.1 + qq - qr], e.2), ⟨f1.2.2.2, by simp; omega⟩, Nat.lt_succ_self k, ?_⟩
        simp -dsimp -implicitDefEqProofs only [go_sem, ↓reduceIte, Nat.reduceEqDiff, Nat.reduceLT, Nat.reduceAdd, Nat.reduceMul, Nat.reduceLeDiff, Nat.le_refl, Int.natCast_zero, Int.toNat_natCast, Int.reduceToNat]
        all_goals (first | omega | (rw [List.take_of_length_le (by simp)]; simp; done) | (refine ⟨?_, ?_⟩ <;> omega) | (exact rfl) | (simp; done) | (simp [*]; done) | trace_state)
  · rw [Nat.min_eq_left h64]; simp -dsimp -implicitDefEqProofs only [pick_nil, pick_cons, look_nil, look_cons, dropB_nil, dropB_cons, inD_nil, inD_cons, inE_nil, inE_cons, or_t_l, or_f_l, Nat.reduceBEq, Nat.reduceDiv, Nat.reduceAdd, beq_self_eq_true, Bool.false_eq_true, Bool.or_false, ↓reduceIte, Nat.reduceEqDiff, List.cons_append, List.nil_append]; simp -dsimp -implicitDefEqProofs only [go_sem, ↓reduceIte, Nat.reduceEqDiff, Nat.reduceLT, Nat.reduceAdd, Nat.reduceMul, Nat.reduceLeDiff, Nat.le_refl, Int.natCast_zero, Int.toNat_natCast, Int.reduceToNat, nlt_len]
    have h1 := nx_ok bs 7 hs
    have h2 := h1.2.2.1 (by omega)
    repeat' (with_reducible refine And.intro ?_ ?_)
    all_goals try (first | omega | (refine ⟨?_, ?_⟩ <;> omega) | (simp; done) | (exact rfl) | decide)
    refine sCallT_io [900007] ?_; simp -dsimp -implicitDefEqProofs only [go_sem, ↓reduceIte, Nat.reduceEqDiff, Nat.reduceLT, Nat.reduceAdd, Nat.reduceMul, Nat.reduceLeDiff, Nat.le_refl, Int.natCast_zero, Int.toNat_natCast, Int.reduceToNat]; refine sCallM_one (c_l01Next _ bs 7 _ hs hl) ?_; simp -dsimp -implicitDefEqProofs only [go_sem, ↓reduceIte, Nat.reduceEqDiff, Nat.reduceLT, Nat.reduceAdd, Nat.reduceMul, Nat.reduceLeDiff, Nat.le_refl, Int.natCast_zero, Int.toNat_natCast, Int.reduceToNat]
    generalize nx bs 7 s = a at *
    refine Later.lp [4, 6] [21, 23, 27, 30, 31] [11, 900007] (fun x : Nat × List Int × Src => SrcOk x.2.2 ∧ x.1 + x.2.1.length ≤ 6)
      (fun x => [(7, eI x.1), (5, .ref 11 0 0 x.2.1.length)]) (fun x => [(11, .row 0 ⟨1, false⟩ true (x.2.1.map eI)), (900007, srcB 0 bs x.2.2)]) (fun x => x.1) (a.1.toNat, [], a.2) ⟨h1.2.2.2, by simp; omega⟩ ?_ rfl (fun x hI => ?_)
    · dsimp only
      rw [show ((a.1.toNat : Nat) : Int) = a.1 by omega]
      simp -dsimp -implicitDefEqProofs only [go_sem, ↓reduceIte, Nat.reduceEqDiff, Nat.reduceLT, Nat.reduceAdd, Nat.reduceMul, Nat.reduceLeDiff, Nat.le_refl, Int.natCast_zero, Int.toNat_natCast, Int.reduceToNat]
      all_goals try (first | omega | (refine ⟨?_, ?_⟩ <;> omega) | (simp; done) | (exact rfl) | decide)
    · obtain ⟨k, rows, s⟩ := x
      obtain ⟨q1, q2⟩ := hI
      dsimp only at q1 q2 ⊢
      clear h1 h2 hs
      cases k with
      | zero =>
        have hk0 : decide ((0 : Int) > 0) = false := rfl
        have g1 := nx_ok bs 4 q1
        have g2 := g1.2.2.1 (by omega)
        have hcn := fun v => c_l01Next v bs 4 s q1 hl
        generalize nx bs 4 s = b at *
        simp -dsimp -implicitDefEqProofs only [pick_nil, pick_cons, look_nil, look_cons, dropB_nil, dropB_cons, inD_nil, inD_cons, inE_nil, inE_cons, or_t_l, or_f_l, Nat.reduceBEq, Nat.reduceDiv, Nat.reduceAdd, beq_self_eq_true, Bool.false_eq_true, Bool.or_false, ↓reduceIte, Nat.reduceEqDiff, List.cons_append, List.nil_append]
        simp -dsimp -implicitDefEqProofs only [go_sem, ↓reduceIte, Nat.reduceEqDiff, Nat.reduceLT, Nat.reduceAdd, Nat.reduceMul, Nat.reduceLeDiff, Nat.le_refl, Int.natCast_zero, Int.toNat_natCast, Int.reduceToNat, hk0]
        refine sCallT_io [900007] ?_; simp -dsimp -implicitDefEqProofs only [go_sem, ↓reduceIte, Nat.reduceEqDiff, Nat.reduceLT, Nat.reduceAdd, Nat.reduceMul, Nat.reduceLeDiff, Nat.le_refl, Int.natCast_zero, Int.toNat_natCast, Int.reduceToNat]; refine sCallM_one (hcn _) ?_; simp -dsimp -implicitDefEqProofs only [go_sem, ↓reduceIte, Nat.reduceEqDiff, Nat.reduceLT, Nat.reduceAdd, Nat.reduceMul, Nat.reduceLeDiff, Nat.le_refl, Int.natCast_zero, Int.toNat_natCast, Int.reduceToNat]
        refine Later.lp [4, 5] [40, 42, 45, 46] [12, 900007] (fun x : Nat × List Int × Src => SrcOk x.2.2 ∧ x.1 + x.2.1.length ≤ 3)
          (fun x => [(8, eI x.1), (6, .ref 12 0 0 x.2.1.length)]) (fun x => [(12, .row 0 ⟨1, false⟩ true (x.2.1.map eI)), (900007, srcB 0 bs x.2.2)]) (fun x => x.1) (b.1.toNat, [], b.2) ⟨g1.2.2.2, by simp; omega⟩ ?_ rfl (fun x hI => ?_)
        · dsimp only
          rw [show ((b.1.toNat : Nat) : Int) = b.1 by omega]
          simp -dsimp -implicitDefEqProofs only [go_sem, ↓reduceIte, Nat.reduceEqDiff, Nat.reduceLT, Nat.reduceAdd, Nat.reduceMul, Nat.reduceLeDiff, Nat.le_refl, Int.natCast_zero, Int.toNat_natCast, Int.reduceToNat]
          all_goals try (first | omega | (refine ⟨?_, ?_⟩ <;> omega) | (simp; done) | (exact rfl) | decide)
        · obtain ⟨k, roles, s⟩ := x
          obtain ⟨p1, p2⟩ := hI
          dsimp only at p1 p2 ⊢
          clear g1 g2 hcn q1
          cases k with
          | zero =>
            have hk0 : decide ((0 : Int) > 0) = false := rfl
            have g1 := nx_ok bs 24 p1
            have hcn := fun v => c_l01Next v bs 24 s p1 hl
            generalize nx bs 24 s = c at *
            simp -dsimp -implicitDefEqProofs only [pick_nil, pick_cons, look_nil, look_cons, dropB_nil, dropB_cons, inD_nil, inD_cons, inE_nil, inE_cons, or_t_l, or_f_l, Nat.reduceBEq, Nat.reduceDiv, Nat.reduceAdd, beq_self_eq_true, Bool.false_eq_true, Bool.or_false, ↓reduceIte, Nat.reduceEqDiff, List.cons_append, List.nil_append]
            simp -dsimp -implicitDefEqProofs only [go_sem, ↓reduceIte, Nat.reduceEqDiff, Nat.reduceLT, Nat.reduceAdd, Nat.reduceMul, Nat.reduceLeDiff, Nat.le_refl, Int.natCast_zero, Int.toNat_natCast, Int.reduceToNat, hk0]
            refine sCallT_io [900007] ?_; simp -dsimp -implicitDefEqProofs only [go_sem, ↓reduceIte, Nat.reduceEqDiff, Nat.reduceLT, Nat.reduceAdd, Nat.reduceMul, Nat.reduceLeDiff, Nat.le_refl, Int.natCast_zero, Int.toNat_natCast, Int.reduceToNat]; refine sCallM_one (hcn _) ?_; simp -dsimp -implicitDefEqProofs only [go_sem, ↓reduceIte, Nat.reduceEqDiff, Nat.reduceLT, Nat.reduceAdd, Nat.reduceMul, Nat.reduceLeDiff, Nat.le_refl, Int.natCast_zero, Int.toNat_natCast, Int.reduceToNat]
            have c1 := nx_ok bs 2 g1.2.2.2
            have c2 := c1.2.2.1 (by omega)
            have hcn2 := fun v => c_l01Next v bs 2 c.2 g1.2.2.2 hl
            generalize nx bs 2 c.2 = d at *
            rcases hc0 : (c.1 == 0) with _ | _
            · rcases hc1 : (c.1 == 1) with _ | _
              · simp -dsimp -implicitDefEqProofs only [go_sem, ↓reduceIte, Nat.reduceEqDiff, Nat.reduceLT, Nat.reduceAdd, Nat.reduceMul, Nat.reduceLeDiff, Nat.le_refl, Int.natCast_zero, Int.toNat_natCast, Int.reduceToNat, hc0, hc1]
                repeat' (with_reducible refine And.intro ?_ ?_)
                all_goals try (first | omega | (refine ⟨?_, ?_⟩ <;> omega) | (simp; done) | (exact rfl) | decide)
                refine ⟨.tup [eIs rows, eIs roles], ?_, rows, roles, by omega, by omega, rfl⟩
                simp -dsimp -implicitDefEqProofs only [go_sem, ↓reduceIte, Nat.reduceEqDiff, Nat.reduceLT, Nat.reduceAdd, Nat.reduceMul, Nat.reduceLeDiff, Nat.le_refl, Int.natCast_zero, Int.toNat_natCast, Int.reduceToNat]
                all_goals (first | omega | (rw [List.take_of_length_le (by simp)]; simp; done) | (refine ⟨?_, ?_⟩ <;> omega) | (exact rfl) | (simp; done) | (simp [*]; done) | trace_state)
              · simp -dsimp -implicitDefEqProofs only [go_sem, ↓reduceIte, Nat.reduceEqDiff, Nat.reduceLT, Nat.reduceAdd, Nat.reduceMul, Nat.reduceLeDiff, Nat.le_refl, Int.natCast_zero, Int.toNat_natCast, Int.reduceToNat, hc0, hc1]
                refine sCallT_io [900007] ?_; simp -dsimp -implicitDefEqProofs only [go_sem, ↓reduceIte, Nat.reduceEqDiff, Nat.reduceLT, Nat.reduceAdd, Nat.reduceMul, Nat.reduceLeDiff, Nat.le_refl, Int.natCast_zero, Int.toNat_natCast, Int.reduceToNat]; refine sCallM_one (hcn2 _) ?_; simp -dsimp -implicitDefEqProofs only [go_sem, ↓reduceIte, Nat.reduceEqDiff, Nat.reduceLT, Nat.reduceAdd, Nat.reduceMul, Nat.reduceLeDiff, Nat.le_refl, Int.natCast_zero, Int.toNat_natCast, Int.reduceToNat]
                repeat' (with_reducible refine And.intro ?_ ?_)
                all_goals try (first | omega | (refine ⟨?_, ?_⟩ <;> omega) | (simp; done) | (exact rfl) | decide)
                refine ⟨.tup [eIs rows, eIs (List.replicate (10 + d.1).toNat 0)], ?_, rows, _, by omega, by rw [List.length_replicate]; omega, rfl⟩
                simp -dsimp -implicitDefEqProofs only [go_sem, ↓reduceIte, Nat.reduceEqDiff, Nat.reduceLT, Nat.reduceAdd, Nat.reduceMul, Nat.reduceLeDiff, Nat.le_refl, Int.natCast_zero, Int.toNat_natCast, Int.reduceToNat]
                all_goals (first | omega | (rw [List.take_of_length_le (by simp)]; simp; done) | (refine ⟨?_, ?_⟩ <;> omega) | (exact rfl) | (simp; done) | (simp [*]; done) | trace_state)
            · simp -dsimp -implicitDefEqProofs only [go_sem, ↓reduceIte, Nat.reduceEqDiff, Nat.reduceLT, Nat.reduceAdd, Nat.reduceMul, Nat.reduceLeDiff, Nat.le_refl, Int.natCast_zero, Int.toNat_natCast, Int.reduceToNat, hc0]
              refine sCallT_io [900007] ?_; simp -dsimp -implicitDefEqProofs only [go_sem, ↓reduceIte, Nat.reduceEqDiff, Nat.reduceLT, Nat.reduceAdd, Nat.reduceMul, Nat.reduceLeDiff, Nat.le_refl, Int.natCast_zero, Int.toNat_natCast, Int.reduceToNat]; refine sCallM_one (hcn2 _) ?_; simp -dsimp -implicitDefEqProofs only [go_sem, ↓reduceIte, Nat.reduceEqDiff, Nat.reduceLT, Nat.reduceAdd, Nat.reduceMul, Nat.reduceLeDiff, Nat.le_refl, Int.natCast_zero, Int.toNat_natCast, Int.reduceToNat]
              repeat' (with_reducible refine And.intro ?_ ?_)
              all_goals try (first | omega | (refine ⟨?_, ?_⟩ <;> omega) | (simp; done) | (exact rfl) | decide)
              refine ⟨.tup [eIs (List.replicate (20 + d.1).toNat 0), eIs roles], ?_, _, roles, by rw [List.length_replicate]; omega, by omega, rfl⟩
              simp -dsimp -implicitDefEqProofs only [go_sem, ↓reduceIte, Nat.reduceEqDiff, Nat.reduceLT, Nat.reduceAdd, Nat.reduceMul, Nat.reduceLeDiff, Nat.le_refl, Int.natCast_zero, Int.toNat_natCast, Int.reduceToNat]
              all_goals (first | omega | (rw [List.take_of_length_le (by simp)]; simp; done) | (refine ⟨?_, ?_⟩ <;> omega) | (exact rfl) | (simp; done) | (simp [*]; done) | trace_state)
          | succ k =>
            have hk0 : decide (((k + 1 : Nat) : Int) > 0) = true := decide_eq_true (by omega)
            have g1 := nx_ok bs 3 p1
            have g2 := g1.2.2.1 (by omega)
            have hcn := fun v => c_l01Next v bs 3 s p1 hl
            generalize nx bs 3 s = c at *
            have e1 := nx_ok bs 30 g1.2.2.2
            have e2 := e1.2.2.1 (by omega)
            have hcn2 := fun v => c_l01Next v bs 30 c.2 g1.2.2.2 hl
            generalize nx bs 30 c.2 = d at *
            have qd := quo_in (n := 29) e1.1 (by omega) (by omega)
            simp -dsimp -implicitDefEqProofs only [pick_nil, pick_cons, look_nil, look_cons, dropB_nil, dropB_cons, inD_nil, inD_cons, inE_nil, inE_cons, or_t_l, or_f_l, Nat.reduceBEq, Nat.reduceDiv, Nat.reduceAdd, beq_self_eq_true, Bool.false_eq_true, Bool.or_false, ↓reduceIte, Nat.reduceEqDiff, List.cons_append, List.nil_append]
            simp -dsimp -implicitDefEqProofs only [go_sem, ↓reduceIte, Nat.reduceEqDiff, Nat.reduceLT, Nat.reduceAdd, Nat.reduceMul, Nat.reduceLeDiff, Nat.le_refl, Int.natCast_zero, Int.toNat_natCast, Int.reduceToNat, hk0]
            refine sCallT_io [900007] ?_; simp -dsimp -implicitDefEqProofs only [go_sem, ↓reduceIte, Nat.reduceEqDiff, Nat.reduceLT, Nat.reduceAdd, Nat.reduceMul, Nat.reduceLeDiff, Nat.le_refl, Int.natCast_zero, Int.toNat_natCast, Int.reduceToNat]; refine sCallM_one (hcn _) ?_; simp -dsimp -implicitDefEqProofs only [go_sem, ↓reduceIte, Nat.reduceEqDiff, Nat.reduceLT, Nat.reduceAdd, Nat.reduceMul, Nat.reduceLeDiff, Nat.le_refl, Int.natCast_zero, Int.toNat_natCast, Int.reduceToNat]
            refine sCallT_io [900007] ?_; simp -dsimp -implicitDefEqProofs only [go_sem, ↓reduceIte, Nat.reduceEqDiff, Nat.reduceLT, Nat.reduceAdd, Nat.reduceMul, Nat.reduceLeDiff, Nat.le_refl, Int.natCast_zero, Int.toNat_natCast, Int.reduceToNat]; refine sCallM_one (hcn2 _) ?_; simp -dsimp -implicitDefEqProofs only [go_sem, ↓reduceIte, Nat.reduceEqDiff, Nat.reduceLT, Nat.reduceAdd, Nat.reduceMul, Nat.reduceLeDiff, Nat.le_refl, Int.natCast_zero, Int.toNat_natCast, Int.reduceToNat]
            generalize d.1.tdiv 29 = qq at *
            repeat' (with_reducible refine And.intro ?_ ?_)
            all_goals try (first | omega | (refine ⟨?_, ?_⟩ <;> omega) | (simp; done) | (exact rfl) | decide)
            refine ⟨(k, roles ++ [c.1 + qq], d.2), ⟨e1.2.2.2, by simp; omega⟩, Nat.lt_succ_self k, ?_⟩
            simp -dsimp -implicitDefEqProofs only [go_sem, ↓reduceIte, Nat.reduceEqDiff, Nat.reduceLT, Nat.reduceAdd, Nat.reduceMul, Nat.reduceLeDiff, Nat.le_refl, Int.natCast_zero, Int.toNat_natCast, Int.reduceToNat]
            all_goals (first | omega | (rw [List.take_of_length_le (by simp)]; simp; done) | (refine ⟨?_, ?_⟩ <;> omega) | (exact rfl) | (simp; done) | (simp [*]; done) | trace_state)
      | succ k =>
        have hk0 : decide (((k + 1 : Nat) : Int) > 0) = true := decide_eq_true (by omega)
        have g1 := nx_ok bs 10 q1
        have g2 := g1.2.2.1 (by omega)
        have hcn := fun v => c_l01Next v bs 10 s q1 hl
        generalize nx bs 10 s = c at *
        have e1 := nx_ok bs 40 g1.2.2.2
        have e2 := e1.2.2.1 (by omega)
        have hcn2 := fun v => c_l01Next v bs 40 c.2 g1.2.2.2 hl
        generalize nx bs 40 c.2 = d at *
        have f1 := nx_ok bs 40 e1.2.2.2
        have f2 := f1.2.2.1 (by omega)
        have hcn3 := fun v => c_l01Next v bs 40 d.2 e1.2.2.2 hl
        generalize nx bs 40 d.2 = e at *
        have qd := quo_in (n := 39) e1.1 (by omega) (by omega)
        have qe := quo_in (n := 39) f1.1 (by omega) (by omega)
        simp -dsimp -implicitDefEqProofs only [pick_nil, pick_cons, look_nil, look_cons, dropB_nil, dropB_cons, inD_nil, inD_cons, inE_nil, inE_cons, or_t_l, or_f_l, Nat.reduceBEq, Nat.reduceDiv, Nat.reduceAdd, beq_self_eq_true, Bool.false_eq_true, Bool.or_false, ↓reduceIte, Nat.reduceEqDiff, List.cons_append, List.nil_append]
        simp -dsimp -implicitDefEqProofs only [go_sem, ↓reduceIte, Nat.reduceEqDiff, Nat.reduceLT, Nat.reduceAdd, Nat.reduceMul, Nat.reduceLeDiff, Nat.le_refl, Int.natCast_zero, Int.toNat_natCast, Int.reduceToNat, hk0]
        refine sCallT_io [900007] ?_; simp -dsimp -implicitDefEqProofs only [go_sem, ↓reduceIte, Nat.reduceEqDiff, Nat.reduceLT, Nat.reduceAdd, Nat.reduceMul, Nat.reduceLeDiff, Nat.le_refl, Int.natCast_zero, Int.toNat_natCast, Int.reduceToNat]; refine sCallM_one (hcn _) ?_; simp -dsimp -implicitDefEqProofs only [go_sem, ↓reduceIte, Nat.reduceEqDiff, Nat.reduceLT, Nat.reduceAdd, Nat.reduceMul, Nat.reduceLeDiff, Nat.le_refl, Int.natCast_zero, Int.toNat_natCast, Int.reduceToNat]
        refine sCallT_io [900007] ?_; simp -dsimp -implicitDefEqProofs only [go_sem, ↓reduceIte, Nat.reduceEqDiff, Nat.reduceLT, Nat.reduceAdd, Nat.reduceMul, Nat.reduceLeDiff, Nat.le_refl, Int.natCast_zero, Int.toNat_natCast, Int.reduceToNat]; refine sCallM_one (hcn2 _) ?_; simp -dsimp -implicitDefEqProofs only [go_sem, ↓reduceIte, Nat.reduceEqDiff, Nat.reduceLT, Nat.reduceAdd, Nat.reduceMul, Nat.reduceLeDiff, Nat.le_refl, Int.natCast_zero, Int.toNat_natCast, Int.reduceToNat]
        repeat' (with_reducible refine And.intro ?_ ?_)
        all_goals try (first | omega | (refine ⟨?_, ?_⟩ <;> omega) | (simp; done) | (exact rfl) | decide)
        refine sCallT_io [900007] ?_; simp -dsimp -implicitDefEqProofs only [go_sem, ↓reduceIte, Nat.reduceEqDiff, Nat.reduceLT, Nat.reduceAdd, Nat.reduceMul, Nat.reduceLeDiff, Nat.le_refl, Int.natCast_zero, Int.toNat_natCast, Int.reduceToNat]; refine sCallM_one (hcn3 _) ?_; simp -dsimp -implicitDefEqProofs only [go_sem, ↓reduceIte, Nat.reduceEqDiff, Nat.reduceLT, Nat.reduceAdd, Nat.reduceMul, Nat.reduceLeDiff, Nat.le_refl, Int.natCast_zero, Int.toNat_natCast, Int.reduceToNat]
        generalize d.1.tdiv 39 = qq at *
        generalize e.1.tdiv 39 = qr at *
        repeat' (with_reducible refine And.intro ?_ ?_)
        all_goals try (first | omega | (refine ⟨?_, ?_⟩ <;> omega) | (simp; done) | (exact rfl) | decide)
        refine ⟨(k, rows ++ [c.1 + qq - qr], e.2), ⟨f1.2.2.2, by simp; omega⟩, Nat.lt_succ_self k, ?_⟩
        simp -dsimp -implicitDefEqProofs only [go_sem, ↓reduceIte, Nat.reduceEqDiff, Nat.reduceLT, Nat.reduceAdd, Nat.reduceMul, Nat.reduceLeDiff, Nat.le_refl, Int.natCast_zero, Int.toNat_natCast, Int.reduceToNat]
        all_goals (first | omega | (rw [List.take_of_length_le (by simp)]; simp; done) | (refine ⟨?_, ?_⟩ <;> omega) | (exact rfl) | (simp; done) | (simp [*]; done) | trace_state)
end Go.Vc
