import Derived.Test.YtgdjpnahpanaoaaGreatDoorPkLawOrdersF
open Bool renaming false_eq_true → uq0
open List renaming cons_append → uq1, nil_append → uq2
set_option linter.unusedVariables false
set_option linter.unusedSimpArgs false
set_option linter.unnecessarySimpa false
namespace Go.Vc
open Go.Proofs Go.Lib
set_option maxRecDepth 100000
set_option maxHeartbeats 4000000
theorem sCallS_any2 {P : Program} {f : FuncId} {d : Nat} {xs ts : List AV} {m : Mem} {k : AV → Mem → Prop} {post : AV → Prop} (h : Fn P f ts false post) (hl : noLabs xs) (hk : ∀ r, post r → k r m) {q : Pack k} : sCallT P f d xs ts m k q := .inr ⟨false, _, h, fun _ => hl, fun r hr => hk r hr⟩
theorem fk_Item : flatK Tryz.prog 73 = some [.bool, .int .i64, .int .i64] := by kernel_rfl
attribute [local go_sem] fk_Item
theorem beqSelfI2 (x : Int) : (x == x) = true := by simp
theorem beqSelfB2 (x : Bool) : (x == x) = true := by simp
theorem c_likeItemsE (xs : List ItM) (h : xs.length ≤ 9223372036854775807) : Fn Tryz.prog 18 [eIts xs, eIts xs] true (· = eB true) := by
  refine Fn.of_vcN 26 [.tmp 4] Tryz.func18 rfl rfl rfl rfl rfl (of_decide_eq_true rfl) ?_
  simp -dsimp -implicitDefEqProofs only [go_sem, ↓reduceIte]
  refine Later.up [0, 1] [13] [] xs.length (fun _ => True) (fun i => [(5, eI i)]) (fun _ => []) trivial ?_ rfl (fun i hi _ => ?_) (fun _ => ?_)
  · simp -dsimp -implicitDefEqProofs only [go_sem, ↓reduceIte]
  · have gx := get_some hi
    generalize xs[i] = x at *
    simp -dsimp -implicitDefEqProofs only [pick_nil, pick_cons, look_nil, look_cons, dropB_nil, dropB_cons, inD_nil, inD_cons, inE_nil, inE_cons, or_t_l, or_f_l, Nat.reduceBEq, Nat.reduceDiv, Nat.reduceAdd, beq_self_eq_true, uq0, Bool.or_false, ↓reduceIte, Nat.reduceEqDiff, uq1, uq2]
    simp -dsimp -implicitDefEqProofs only [go_sem, ↓reduceIte, lt_len hi]
    refine Later.draw mixed rfl ?_
    simp -dsimp -implicitDefEqProofs only [go_sem, ↓reduceIte, gx, beqSelfI2, beqSelfB2]
    ((repeat' (with_reducible refine And.intro ?_ ?_)); all_goals try (first | omega | (refine ⟨?_, ?_⟩ <;> omega) | (exact rfl)))
    all_goals trace_state
  · simp -dsimp -implicitDefEqProofs only [pick_nil, pick_cons, look_nil, look_cons, dropB_nil, dropB_cons, inD_nil, inD_cons, inE_nil, inE_cons, or_t_l, or_f_l, Nat.reduceBEq, Nat.reduceDiv, Nat.reduceAdd, beq_self_eq_true, uq0, Bool.or_false, ↓reduceIte, Nat.reduceEqDiff, uq1, uq2]
    simp -dsimp -implicitDefEqProofs only [go_sem, ↓reduceIte, nlt_len]
theorem c_l24Ones (n : Nat) (h : n ≤ 1000) : Fn Tryz.prog 59 [eI n] false (· = eIs (List.replicate n 1)) := by
  refine Fn.of_vcS 13 [.tmp 2] Tryz.func59 rfl rfl rfl rfl rfl (of_decide_eq_true rfl) ?_
  simp -dsimp -implicitDefEqProofs only [go_sem, ↓reduceIte]
  refine Later.up [] [10, 11] [4] n (fun _ => True) (fun i => [(0, eI ((n : Int) - (i : Int))), (3, .ref 4 0 0 i)]) (fun i => [(4, .row 0 ⟨1, false⟩ true ((List.replicate i (1 : Int)).map eI))]) trivial ?_ rfl (fun i hi _ => ?_) (fun _ => ?_)
  · simp -dsimp -implicitDefEqProofs only [go_sem, ↓reduceIte, List.replicate_zero, List.map_nil]
    ((repeat' (with_reducible refine And.intro ?_ ?_)); all_goals try (first | omega | (refine ⟨?_, ?_⟩ <;> omega) | (exact rfl)))
    all_goals first | (congr 1; omega) | (simp; done) | trace_state
  · have hgt : decide ((n : Int) - (i : Int) > 0) = true := decide_eq_true (by omega)
    have e2 : (List.replicate (i + 1) (1 : Int)).map eI = (List.replicate i (1 : Int)).map eI ++ [eI 1] := by rw [List.replicate_succ']; simp
    have tR : ((List.replicate i (1 : Int)).map eI).take i = (List.replicate i (1 : Int)).map eI := List.take_of_length_le (by simp)
    have hln : ((List.replicate i (1 : Int)).map eI).length = i := by simp
    rw [e2]
    clear e2
    generalize (List.replicate i (1 : Int)).map eI = R at *
    simp -dsimp -implicitDefEqProofs only [pick_nil, pick_cons, look_nil, look_cons, dropB_nil, dropB_cons, inD_nil, inD_cons, inE_nil, inE_cons, or_t_l, or_f_l, Nat.reduceBEq, Nat.reduceDiv, Nat.reduceAdd, beq_self_eq_true, uq0, Bool.or_false, ↓reduceIte, Nat.reduceEqDiff, uq1, uq2]
    simp -dsimp -implicitDefEqProofs only [go_sem, ↓reduceIte, hgt, tR]
    ((repeat' (with_reducible refine And.intro ?_ ?_)); all_goals try (first | omega | (refine ⟨?_, ?_⟩ <;> omega) | (exact rfl)))
    all_goals first | (congr 1; omega) | (rw [hln]; omega) | (simp; omega) | trace_state
  · have hgt : decide ((n : Int) - (n : Int) > 0) = false := decide_eq_false (by omega)
    have tR : ((List.replicate n (1 : Int)).map eI).take n = (List.replicate n (1 : Int)).map eI := List.take_of_length_le (by simp)
    simp -dsimp -implicitDefEqProofs only [pick_nil, pick_cons, look_nil, look_cons, dropB_nil, dropB_cons, inD_nil, inD_cons, inE_nil, inE_cons, or_t_l, or_f_l, Nat.reduceBEq, Nat.reduceDiv, Nat.reduceAdd, beq_self_eq_true, uq0, Bool.or_false, ↓reduceIte, Nat.reduceEqDiff, uq1, uq2]
    simp -dsimp -implicitDefEqProofs only [go_sem, ↓reduceIte, hgt]
    ((repeat' (with_reducible refine And.intro ?_ ?_)); all_goals try (first | omega | (refine ⟨?_, ?_⟩ <;> omega) | (exact rfl)))
    all_goals first | (rw [tR]; done) | (simp; done) | trace_state
theorem c_DrawFullOrder (bs : List UInt8) (hl : bs.length ≤ 4096) : Fn Tryz.prog 15 [eYs bs] false (fun x => ∃ (m : MkM) (t : List (List Int)), t.length ≤ 11 ∧ (∀ x ∈ t, x.length ≤ 13) ∧ x = eSy m t) := by
  refine Fn.of_vcS 35 [.cell 2 28] Tryz.func15 rfl rfl rfl rfl rfl (of_decide_eq_true rfl) ?_
  simp -dsimp -implicitDefEqProofs only [go_sem, ↓reduceIte]
  (refine sCallT_inl 900000 34 [.tmp 2] Tryz.func46 rfl rfl rfl rfl rfl (by exact of_decide_eq_true rfl) ?_; simp -dsimp -implicitDefEqProofs only [go_sem, ↓reduceIte]; refine Later.up [0, 3] [10] [7] (min bs.length 64) (fun _ => True) (fun i => [(4, eI i)]) (fun i => [(7, srcB 0 bs ⟨seedAt bs i, 0⟩)]) trivial ?_ rfl (fun i hi _ => ?_) (fun _ => ?_))
  · simp -dsimp -implicitDefEqProofs only [go_sem, ↓reduceIte]
    simp [seedAt]
  · ((have h1 : i < bs.length := by omega); (have h2 : i < 64 := by omega); (have hs := seedAt_ok bs i); (have hb := (bs[i]).toNat_lt); (have d1 := lt_len h1); (have d2 : decide ((i : Int) < 64) = true := decide_eq_true (by omega)); (have g1 := get_some h1); (have e1 := seedAt_succ h1); simp -dsimp -implicitDefEqProofs only [pick_nil, pick_cons, look_nil, look_cons, dropB_nil, dropB_cons, inD_nil, inD_cons, inE_nil, inE_cons, or_t_l, or_f_l, Nat.reduceBEq, Nat.reduceDiv, Nat.reduceAdd, beq_self_eq_true, uq0, Bool.or_false, ↓reduceIte, Nat.reduceEqDiff, uq1, uq2]; rw [e1]; generalize bs[i] = b at *; generalize seedAt bs i = z at *; simp -dsimp -implicitDefEqProofs only [go_sem, ↓reduceIte, d1, d2]; refine Later.draw mixed rfl ?_; simp -dsimp -implicitDefEqProofs only [go_sem, ↓reduceIte, g1]; (repeat' (with_reducible refine And.intro ?_ ?_)); all_goals (first | omega | (refine ⟨?_, ?_⟩ <;> omega) | (exact rfl) | (simp; done) | trace_state))
  (have hs := src0_ok bs); (have hq : (⟨seedAt bs (min bs.length 64), 0⟩ : Src) = src0 bs := rfl); rw [hq]; clear hq; generalize src0 bs = s at *; (have d64 : decide (((64 : Nat) : Int) < 64) = false := rfl)
  have qd := fun v => c_l15Draw v bs s hs hl
  have ⟨o1, o2, o3, o4, o5⟩ := sysD_ok bs hs
  generalize sysD bs s = D at *
  have q12 := fun v => c_l01Next v bs 12 D.src o1 hl
  have a := (nx_ok bs 12 o1).2.2.2
  generalize nx bs 12 D.src = n at *
  have q2 := fun v => c_l01Next v bs 2 n.2 a hl
  have b := nx_ok bs 2 a
  have b3 := b.2.2.1 (by omega)
  generalize nx bs 2 n.2 = n2 at *
  obtain ⟨N, hN⟩ : ∃ N : Nat, 10 + n2.1 = (N : Int) := ⟨(10 + n2.1).toNat, by omega⟩
  have hones := c_l24Ones N (by omega)
  rcases Nat.lt_or_ge 64 bs.length with h64 | h64
  case' inl => (rw [Nat.min_eq_right (Nat.le_of_lt h64)]; simp -dsimp -implicitDefEqProofs only [pick_nil, pick_cons, look_nil, look_cons, dropB_nil, dropB_cons, inD_nil, inD_cons, inE_nil, inE_cons, or_t_l, or_f_l, Nat.reduceBEq, Nat.reduceDiv, Nat.reduceAdd, beq_self_eq_true, uq0, Bool.or_false, ↓reduceIte, Nat.reduceEqDiff, uq1, uq2]; simp -dsimp -implicitDefEqProofs only [go_sem, ↓reduceIte, lt_len h64, d64])
  case' inr => (rw [Nat.min_eq_left h64]; simp -dsimp -implicitDefEqProofs only [pick_nil, pick_cons, look_nil, look_cons, dropB_nil, dropB_cons, inD_nil, inD_cons, inE_nil, inE_cons, or_t_l, or_f_l, Nat.reduceBEq, Nat.reduceDiv, Nat.reduceAdd, beq_self_eq_true, uq0, Bool.or_false, ↓reduceIte, Nat.reduceEqDiff, uq1, uq2]; simp -dsimp -implicitDefEqProofs only [go_sem, ↓reduceIte, nlt_len])
  all_goals
    refine sCallT_ioR [900007] ?_
    simp -dsimp -implicitDefEqProofs only [go_sem, ↓reduceIte]
    refine sCallMR_any (qd _) ?_
    rintro _ _ ⟨rfl, rfl⟩
    simp -dsimp -implicitDefEqProofs only [go_sem, ↓reduceIte]
    (refine sCallT_io [900007] ?_; simp -dsimp -implicitDefEqProofs only [go_sem, ↓reduceIte]; refine sCallM_one (q12 _) ?_; simp -dsimp -implicitDefEqProofs only [go_sem, ↓reduceIte])
    cases h0 : (n.1 == 0) with
    | true =>
      simp -dsimp -implicitDefEqProofs only [go_sem, ↓reduceIte, h0]
      (refine sCallT_io [900007] ?_; simp -dsimp -implicitDefEqProofs only [go_sem, ↓reduceIte]; refine sCallM_one (q2 _) ?_; simp -dsimp -implicitDefEqProofs only [go_sem, ↓reduceIte])
      ((repeat' (with_reducible refine And.intro ?_ ?_)); all_goals try (first | omega | (refine ⟨?_, ?_⟩ <;> omega) | (exact rfl)))
      rw [hN]
      refine Later.up [2, 4, 7] [23, 27, 28, 29] [18] 10 (fun _ => True) (fun i => [(6, .ref 18 0 0 i)]) (fun i => [(18, .row 0 ⟨1, false⟩ (i == 0) ((List.replicate i (List.replicate N (1 : Int))).map eIs))]) trivial ?_ rfl (fun i hi _ => ?_) (fun _ => ?_)
      · simp -dsimp -implicitDefEqProofs only [go_sem, ↓reduceIte, List.replicate_zero, List.map_nil]
        ((repeat' (with_reducible refine And.intro ?_ ?_)); all_goals try (first | omega | (refine ⟨?_, ?_⟩ <;> omega) | (exact rfl)))
        all_goals first | (simp; done) | trace_state
      · have hlt : decide ((i : Int) < 10) = true := decide_eq_true (by omega)
        have e2 : (List.replicate (i + 1) (List.replicate N (1 : Int))).map eIs = (List.replicate i (List.replicate N (1 : Int))).map eIs ++ [eIs (List.replicate N 1)] := by rw [List.replicate_succ']; simp
        have e0 : (i + 1 == 0) = false := rfl
        have tR : ((List.replicate i (List.replicate N (1 : Int))).map eIs).take i = (List.replicate i (List.replicate N (1 : Int))).map eIs := List.take_of_length_le (by simp)
        have hln : ((List.replicate i (List.replicate N (1 : Int))).map eIs).length = i := by simp
        rw [e2, e0]
        clear e2
        generalize (List.replicate i (List.replicate N (1 : Int))).map eIs = R at *
        simp -dsimp -implicitDefEqProofs only [pick_nil, pick_cons, look_nil, look_cons, dropB_nil, dropB_cons, inD_nil, inD_cons, inE_nil, inE_cons, or_t_l, or_f_l, Nat.reduceBEq, Nat.reduceDiv, Nat.reduceAdd, beq_self_eq_true, uq0, Bool.or_false, ↓reduceIte, Nat.reduceEqDiff, uq1, uq2]
        simp -dsimp -implicitDefEqProofs only [go_sem, ↓reduceIte, hlt]
        refine sCallS_one hones (by simp [noLabs, labs, labsL, isClo]) ?_
        simp -dsimp -implicitDefEqProofs only [go_sem, ↓reduceIte]
        refine .inr ⟨by omega, by omega, (by cases i with | zero => exact .inr rfl | succ i => exact .inl rfl), ?_⟩
        simp -dsimp -implicitDefEqProofs only [go_sem, ↓reduceIte, tR]
        ((repeat' (with_reducible refine And.intro ?_ ?_)); all_goals try (first | omega | (refine ⟨?_, ?_⟩ <;> omega) | (exact rfl)))
        all_goals first | (simp; done) | trace_state
      · have hlt : decide (((10 : Nat) : Int) < 10) = false := rfl
        simp -dsimp -implicitDefEqProofs only [pick_nil, pick_cons, look_nil, look_cons, dropB_nil, dropB_cons, inD_nil, inD_cons, inE_nil, inE_cons, or_t_l, or_f_l, Nat.reduceBEq, Nat.reduceDiv, Nat.reduceAdd, beq_self_eq_true, uq0, Bool.or_false, ↓reduceIte, Nat.reduceEqDiff, uq1, uq2]
        simp -dsimp -implicitDefEqProofs only [go_sem, ↓reduceIte, hlt]
        ((repeat' (with_reducible refine And.intro ?_ ?_)); all_goals try (first | omega | (refine ⟨?_, ?_⟩ <;> omega) | (exact rfl)))
        refine ⟨D.m, List.replicate 10 (List.replicate N 1), by simp, fun x hx => ?_, ?_⟩
        · have := List.eq_of_mem_replicate hx
          subst this; simp; omega
        · first | rfl | (simp [List.replicate, eIs]; done) | trace_state
    | false =>
      simp -dsimp -implicitDefEqProofs only [go_sem, ↓reduceIte, h0]
      ((repeat' (with_reducible refine And.intro ?_ ?_)); all_goals try (first | omega | (refine ⟨?_, ?_⟩ <;> omega) | (exact rfl)))
      all_goals first | (exact ⟨D.m, D.t, o2, o3, rfl⟩) | trace_state
def OrdQ (x : AV) : Prop := ∃ (m : MkM) (t : List (List Int)) (os : List ItM), t.length ≤ 11 ∧ (∀ x ∈ t, x.length ≤ 13) ∧ os.length ≤ 30 ∧ (∀ x ∈ os, ItD x) ∧ x = .tup [eSy m t, eIts os]
theorem c_DrawIsOrder (bs : List UInt8) (hl : bs.length ≤ 4096) : Fn Tryz.prog 41 [eYs bs] false OrdQ := by
  unfold OrdQ
  refine Fn.of_vcS 16 [.cell 2 28, .tmp 3] Tryz.func41 rfl rfl rfl rfl rfl (of_decide_eq_true rfl) ?_
  simp -dsimp -implicitDefEqProofs only [go_sem, ↓reduceIte]
  (refine sCallT_inl 900000 34 [.tmp 2] Tryz.func46 rfl rfl rfl rfl rfl (by exact of_decide_eq_true rfl) ?_; simp -dsimp -implicitDefEqProofs only [go_sem, ↓reduceIte]; refine Later.up [0, 3] [10] [7] (min bs.length 64) (fun _ => True) (fun i => [(4, eI i)]) (fun i => [(7, srcB 0 bs ⟨seedAt bs i, 0⟩)]) trivial ?_ rfl (fun i hi _ => ?_) (fun _ => ?_))
  · simp -dsimp -implicitDefEqProofs only [go_sem, ↓reduceIte]
    simp [seedAt]
  · ((have h1 : i < bs.length := by omega); (have h2 : i < 64 := by omega); (have hs := seedAt_ok bs i); (have hb := (bs[i]).toNat_lt); (have d1 := lt_len h1); (have d2 : decide ((i : Int) < 64) = true := decide_eq_true (by omega)); (have g1 := get_some h1); (have e1 := seedAt_succ h1); simp -dsimp -implicitDefEqProofs only [pick_nil, pick_cons, look_nil, look_cons, dropB_nil, dropB_cons, inD_nil, inD_cons, inE_nil, inE_cons, or_t_l, or_f_l, Nat.reduceBEq, Nat.reduceDiv, Nat.reduceAdd, beq_self_eq_true, uq0, Bool.or_false, ↓reduceIte, Nat.reduceEqDiff, uq1, uq2]; rw [e1]; generalize bs[i] = b at *; generalize seedAt bs i = z at *; simp -dsimp -implicitDefEqProofs only [go_sem, ↓reduceIte, d1, d2]; refine Later.draw mixed rfl ?_; simp -dsimp -implicitDefEqProofs only [go_sem, ↓reduceIte, g1]; (repeat' (with_reducible refine And.intro ?_ ?_)); all_goals (first | omega | (refine ⟨?_, ?_⟩ <;> omega) | (exact rfl) | (simp; done) | trace_state))
  (have hs := src0_ok bs); (have hq : (⟨seedAt bs (min bs.length 64), 0⟩ : Src) = src0 bs := rfl); rw [hq]; clear hq; generalize src0 bs = s at *; (have d64 : decide (((64 : Nat) : Int) < 64) = false := rfl)
  rcases Nat.lt_or_ge 64 bs.length with h64 | h64
  case' inl => (rw [Nat.min_eq_right (Nat.le_of_lt h64)]; simp -dsimp -implicitDefEqProofs only [pick_nil, pick_cons, look_nil, look_cons, dropB_nil, dropB_cons, inD_nil, inD_cons, inE_nil, inE_cons, or_t_l, or_f_l, Nat.reduceBEq, Nat.reduceDiv, Nat.reduceAdd, beq_self_eq_true, uq0, Bool.or_false, ↓reduceIte, Nat.reduceEqDiff, uq1, uq2]; simp -dsimp -implicitDefEqProofs only [go_sem, ↓reduceIte, lt_len h64, d64])
  case' inr => (rw [Nat.min_eq_left h64]; simp -dsimp -implicitDefEqProofs only [pick_nil, pick_cons, look_nil, look_cons, dropB_nil, dropB_cons, inD_nil, inD_cons, inE_nil, inE_cons, or_t_l, or_f_l, Nat.reduceBEq, Nat.reduceDiv, Nat.reduceAdd, beq_self_eq_true, uq0, Bool.or_false, ↓reduceIte, Nat.reduceEqDiff, uq1, uq2]; simp -dsimp -implicitDefEqProofs only [go_sem, ↓reduceIte, nlt_len])
  all_goals
    refine sCallT_ioR [900007] ?_
    simp -dsimp -implicitDefEqProofs only [go_sem, ↓reduceIte]
    refine sCallMR_any (c_l29Draw _ bs s hs hl) ?_
    rintro _ _ ⟨m, t, cuts, os, s2, o1, o2, o3, o4, o5, o6, o7, rfl, rfl⟩
    simp -dsimp -implicitDefEqProofs only [go_sem, ↓reduceIte]
    ((repeat' (with_reducible refine And.intro ?_ ?_)); all_goals try (first | omega | (refine ⟨?_, ?_⟩ <;> omega) | (exact rfl)))
    all_goals first | (exact ⟨m, t, os, o2, o3, o6, o7, rfl⟩) | trace_state
theorem c_DrawOrderText (bs : List UInt8) (hl : bs.length ≤ 4096) : Fn Tryz.prog 9 [eYs bs] false OrdQ := by
  have hd := c_DrawIsOrder bs hl
  unfold OrdQ at *
  refine Fn.of_vcS 8 [.cell 2 28, .tmp 3] Tryz.func9 rfl rfl rfl rfl rfl (of_decide_eq_true rfl) ?_
  simp -dsimp -implicitDefEqProofs only [go_sem, ↓reduceIte]
  refine sCallS_any2 hd (by simp [noLabs, labs, labsL, isClo]) ?_
  rintro _ ⟨m, t, os, o2, o3, o6, o7, rfl⟩
  simp -dsimp -implicitDefEqProofs only [go_sem, ↓reduceIte]
  ((repeat' (with_reducible refine And.intro ?_ ?_)); all_goals try (first | omega | (refine ⟨?_, ?_⟩ <;> omega) | (exact rfl)))
  all_goals first | (exact ⟨m, t, os, o2, o3, o6, o7, rfl⟩) | trace_state
def decX (v : Int) : List UInt8 := if v < 0 then [47] else itoa v
theorem c_l01DecM1 : Fn Tryz.prog 89 [eI (-1)] true (· = eS [47]) := by
  refine Fn.of_vcN 20 [.tmp 2] Tryz.func89 rfl rfl rfl rfl rfl (of_decide_eq_true rfl) ?_
  have h1 : decide ((-1 : Int) < 10) = true := rfl
  simp -dsimp -implicitDefEqProofs only [go_sem, ↓reduceIte, h1]
  ((repeat' (with_reducible refine And.intro ?_ ?_)); all_goals try (first | omega | (refine ⟨?_, ?_⟩ <;> omega) | (exact rfl)))
  all_goals first | decide | rfl | trace_state
theorem c_l01DecX (v : Int) (h : -1 ≤ v ∧ v ≤ 1000) : Fn Tryz.prog 89 [eI v] true (· = eS (decX v)) := by
  unfold decX
  by_cases h0 : v < 0
  · rw [if_pos h0]
    have : v = -1 := by omega
    subst this
    exact c_l01DecM1
  · rw [if_neg h0]
    exact c_l01DecI v (by omega)
theorem decX_len {v : Int} (h : -1 ≤ v ∧ v ≤ 1000) : (decX v).length ≤ 25 := by
  unfold decX
  split
  · simp
  · have := itoa_len (v := v) (by unfold I64; omega)
    omega
theorem c_l29TextX (os : List ItM) (h : os.length ≤ 30) (hx : ∀ x ∈ os, ItD x) : Fn Tryz.prog 45 [eIts os] true (fun x => ∃ b : List UInt8, b.length ≤ 2000 ∧ x = eS b) := by
  refine Fn.nil ?_
  refine Fn.of_vc 40 [.tmp 2] Tryz.func45 rfl rfl rfl rfl rfl (of_decide_eq_true rfl) ?_
  simp -dsimp -implicitDefEqProofs only [go_sem, ↓reduceIte]
  refine Later.lp [0] [8, 29, 37] [] (fun x : Nat × List UInt8 => x.1 ≤ os.length ∧ x.2.length ≤ x.1 * 60) (fun x => [(4, eI x.1), (3, eS x.2)]) (fun _ => []) (fun x => os.length - x.1) (0, []) ⟨Nat.zero_le _, Nat.le_refl _⟩ ?_ rfl (fun x hx2 => ?_)
  · simp -dsimp -implicitDefEqProofs only [go_sem, ↓reduceIte]
    all_goals first | (exact rfl) | trace_state
  · obtain ⟨i, out⟩ := x
    obtain ⟨x1, x2⟩ := hx2
    simp only at x1 x2 ⊢
    by_cases hi : i < os.length
    · have gi := get_some hi
      have li := lt_len hi
      have hd := hx _ (List.getElem_mem hi)
      generalize os[i] = it at *
      obtain ⟨d1, d2, d3, d4⟩ := hd
      have c1 := c_l01DecX it.index ⟨d1, d2⟩
      have c2 := c_l01DecX it.copies (by omega)
      have l1 := decX_len ⟨d1, d2⟩
      have l2 := decX_len (v := it.copies) (by omega)
      obtain ⟨b0, hb0⟩ : ∃ b, decide ((i : Int) > 0) = b := ⟨_, rfl⟩
      obtain ⟨b1, hb1⟩ : ∃ b, it.key = b := ⟨_, rfl⟩
      cases b0 <;> cases b1
      all_goals
        simp -dsimp -implicitDefEqProofs only [pick_nil, pick_cons, look_nil, look_cons, dropB_nil, dropB_cons, inD_nil, inD_cons, inE_nil, inE_cons, or_t_l, or_f_l, Nat.reduceBEq, Nat.reduceDiv, Nat.reduceAdd, beq_self_eq_true, uq0, Bool.or_false, ↓reduceIte, Nat.reduceEqDiff, uq1, uq2]
        simp -dsimp -implicitDefEqProofs only [go_sem, ↓reduceIte, li, gi, hb0, hb1]
        ((repeat' (with_reducible refine And.intro ?_ ?_)); all_goals try (first | omega | (refine ⟨?_, ?_⟩ <;> omega) | (exact rfl)))
        refine Later.draw mixed rfl ?_
        simp -dsimp -implicitDefEqProofs only [go_sem, ↓reduceIte, gi]
        ((repeat' (with_reducible refine And.intro ?_ ?_)); all_goals try (first | omega | (refine ⟨?_, ?_⟩ <;> omega) | (exact rfl)))
        refine sCallX_one c1 ?_
        simp -dsimp -implicitDefEqProofs only [go_sem, ↓reduceIte, gi]
        ((repeat' (with_reducible refine And.intro ?_ ?_)); all_goals try (first | omega | (refine ⟨?_, ?_⟩ <;> omega) | (exact rfl)))
        refine sCallX_one c2 ?_
        simp -dsimp -implicitDefEqProofs only [go_sem, ↓reduceIte]
        ((repeat' (with_reducible refine And.intro ?_ ?_)); all_goals try (first | omega | (refine ⟨?_, ?_⟩ <;> omega) | (exact rfl)))
        all_goals first | (refine ⟨(i + 1, _), ⟨by omega, ?_⟩, by simp only; omega, ?_, rfl⟩; rotate_left; (exact rfl); (simp; omega)) | trace_state
    · have hge : decide ((i : Int) < (os.length : Int)) = false := decide_eq_false (by omega)
      simp -dsimp -implicitDefEqProofs only [pick_nil, pick_cons, look_nil, look_cons, dropB_nil, dropB_cons, inD_nil, inD_cons, inE_nil, inE_cons, or_t_l, or_f_l, Nat.reduceBEq, Nat.reduceDiv, Nat.reduceAdd, beq_self_eq_true, uq0, Bool.or_false, ↓reduceIte, Nat.reduceEqDiff, uq1, uq2]
      simp -dsimp -implicitDefEqProofs only [go_sem, ↓reduceIte, hge]
      ((repeat' (with_reducible refine And.intro ?_ ?_)); all_goals try (first | omega | (refine ⟨?_, ?_⟩ <;> omega) | (exact rfl)))
      all_goals first | (exact ⟨_, rfl, out, by omega, rfl⟩) | trace_state
theorem c_DrawReadOrder (bs : List UInt8) (hl : bs.length ≤ 4096) : Fn Tryz.prog 12 [eYs bs] false (fun x => ∃ (m : MkM) (t : List (List Int)) (b : List UInt8), t.length ≤ 11 ∧ (∀ x ∈ t, x.length ≤ 13) ∧ b.length ≤ 2001 ∧ x = .tup [eSy m t, eS b]) := by
  refine Fn.of_vcS 28 [.cell 2 28, .tmp 3] Tryz.func12 rfl rfl rfl rfl rfl (of_decide_eq_true rfl) ?_
  simp -dsimp -implicitDefEqProofs only [go_sem, ↓reduceIte]
  (refine sCallT_inl 900000 34 [.tmp 2] Tryz.func46 rfl rfl rfl rfl rfl (by exact of_decide_eq_true rfl) ?_; simp -dsimp -implicitDefEqProofs only [go_sem, ↓reduceIte]; refine Later.up [0, 3] [10] [7] (min bs.length 64) (fun _ => True) (fun i => [(4, eI i)]) (fun i => [(7, srcB 0 bs ⟨seedAt bs i, 0⟩)]) trivial ?_ rfl (fun i hi _ => ?_) (fun _ => ?_))
  · simp -dsimp -implicitDefEqProofs only [go_sem, ↓reduceIte]
    simp [seedAt]
  · ((have h1 : i < bs.length := by omega); (have h2 : i < 64 := by omega); (have hs := seedAt_ok bs i); (have hb := (bs[i]).toNat_lt); (have d1 := lt_len h1); (have d2 : decide ((i : Int) < 64) = true := decide_eq_true (by omega)); (have g1 := get_some h1); (have e1 := seedAt_succ h1); simp -dsimp -implicitDefEqProofs only [pick_nil, pick_cons, look_nil, look_cons, dropB_nil, dropB_cons, inD_nil, inD_cons, inE_nil, inE_cons, or_t_l, or_f_l, Nat.reduceBEq, Nat.reduceDiv, Nat.reduceAdd, beq_self_eq_true, uq0, Bool.or_false, ↓reduceIte, Nat.reduceEqDiff, uq1, uq2]; rw [e1]; generalize bs[i] = b at *; generalize seedAt bs i = z at *; simp -dsimp -implicitDefEqProofs only [go_sem, ↓reduceIte, d1, d2]; refine Later.draw mixed rfl ?_; simp -dsimp -implicitDefEqProofs only [go_sem, ↓reduceIte, g1]; (repeat' (with_reducible refine And.intro ?_ ?_)); all_goals (first | omega | (refine ⟨?_, ?_⟩ <;> omega) | (exact rfl) | (simp; done) | trace_state))
  (have hs := src0_ok bs); (have hq : (⟨seedAt bs (min bs.length 64), 0⟩ : Src) = src0 bs := rfl); rw [hq]; clear hq; generalize src0 bs = s at *; (have d64 : decide (((64 : Nat) : Int) < 64) = false := rfl)
  rcases Nat.lt_or_ge 64 bs.length with h64 | h64
  case' inl => (rw [Nat.min_eq_right (Nat.le_of_lt h64)]; simp -dsimp -implicitDefEqProofs only [pick_nil, pick_cons, look_nil, look_cons, dropB_nil, dropB_cons, inD_nil, inD_cons, inE_nil, inE_cons, or_t_l, or_f_l, Nat.reduceBEq, Nat.reduceDiv, Nat.reduceAdd, beq_self_eq_true, uq0, Bool.or_false, ↓reduceIte, Nat.reduceEqDiff, uq1, uq2]; simp -dsimp -implicitDefEqProofs only [go_sem, ↓reduceIte, lt_len h64, d64])
  case' inr => (rw [Nat.min_eq_left h64]; simp -dsimp -implicitDefEqProofs only [pick_nil, pick_cons, look_nil, look_cons, dropB_nil, dropB_cons, inD_nil, inD_cons, inE_nil, inE_cons, or_t_l, or_f_l, Nat.reduceBEq, Nat.reduceDiv, Nat.reduceAdd, beq_self_eq_true, uq0, Bool.or_false, ↓reduceIte, Nat.reduceEqDiff, uq1, uq2]; simp -dsimp -implicitDefEqProofs only [go_sem, ↓reduceIte, nlt_len])
  all_goals
    refine sCallT_ioR [900007] ?_
    simp -dsimp -implicitDefEqProofs only [go_sem, ↓reduceIte]
    refine sCallMR_any (c_l29Draw _ bs s hs hl) ?_
    rintro _ _ ⟨m, t, cuts, os, s2, o1, o2, o3, o4, o5, o6, o7, rfl, rfl⟩
    have q3 := fun v => c_l01Next v bs 3 s2 o1 hl
    have a := (nx_ok bs 3 o1).2.2.2
    generalize nx bs 3 s2 = n at *
    simp -dsimp -implicitDefEqProofs only [go_sem, ↓reduceIte]
    refine sCallT_any (c_l29TextX os o6 o7) ?_
    rintro _ ⟨b, hb, rfl⟩
    have hd := damage_ok bs b a
    have qd := fun v => c_l01Damage v bs b n.2 a hl (by omega)
    generalize damage bs b n.2 = dm at *
    simp -dsimp -implicitDefEqProofs only [go_sem, ↓reduceIte]
    (refine sCallT_io [900007] ?_; simp -dsimp -implicitDefEqProofs only [go_sem, ↓reduceIte]; refine sCallM_one (q3 _) ?_; simp -dsimp -implicitDefEqProofs only [go_sem, ↓reduceIte])
    cases h0 : (n.1 == 0) with
    | true =>
      simp -dsimp -implicitDefEqProofs only [go_sem, ↓reduceIte, h0]
      refine Later.draw mixed rfl ?_
      simp -dsimp -implicitDefEqProofs only [go_sem, ↓reduceIte]
      (refine sCallX_io [900007] rfl ?_; simp -dsimp -implicitDefEqProofs only [go_sem, ↓reduceIte]; refine sCallMX_one (qd _) ?_; simp -dsimp -implicitDefEqProofs only [go_sem, ↓reduceIte])
      ((repeat' (with_reducible refine And.intro ?_ ?_)); all_goals try (first | omega | (refine ⟨?_, ?_⟩ <;> omega) | (exact rfl)))
      all_goals first | (exact ⟨m, t, dm.1, o2, o3, by omega, rfl⟩) | trace_state
    | false =>
      simp -dsimp -implicitDefEqProofs only [go_sem, ↓reduceIte, h0]
      ((repeat' (with_reducible refine And.intro ?_ ?_)); all_goals try (first | omega | (refine ⟨?_, ?_⟩ <;> omega) | (exact rfl)))
      all_goals first | (exact ⟨m, t, b, o2, o3, by omega, rfl⟩) | trace_state
end Go.Vc


set_option linter.unusedVariables false
set_option linter.unusedSimpArgs false
set_option linter.unnecessarySimpa false
namespace Go.Vc
open Go.Proofs Go.Lib
set_option maxRecDepth 100000
def wordS (w : List UInt8) : Option ItM :=
  if (spl 120 w).length = 2 ∧ 2 ≤ ((spl 120 w).getD 0 []).length then
    if (valD (((spl 120 w).getD 0 []).drop 1)).2 = true ∧ (valD ((spl 120 w).getD 1 [])).2 = true then
      some ⟨((spl 120 w).getD 0 []).getD 0 0 == 107, (valD (((spl 120 w).getD 0 []).drop 1)).1, (valD ((spl 120 w).getD 1 [])).1⟩ else none
  else none
def wordI (w : List UInt8) : Option ItM :=
  if (partN 120 (w.drop (min 1 w.length))).2 = true ∧ (partN 120 (w.drop (min 1 w.length))).1.length = 2 then
    some ⟨w.getD 0 0 == 107, (partN 120 (w.drop (min 1 w.length))).1.getD 0 0, (partN 120 (w.drop (min 1 w.length))).1.getD 1 0⟩ else none
def ordOf (f : List UInt8 → Option ItM) (ws : List (List UInt8)) : List ItM := ws.map fun w => (f w).getD default
def rdOrd (f : List UInt8 → Option ItM) (m : MkM) (t : List (List Int)) (s : List UInt8) : List ItM × Int :=
  if isSy m t = true then
    if s = [] then ([], 0)
    else if ((spl 32 s).all fun w => (f w).isSome) = true then
      if isOrd t (ordOf f (spl 32 s)) = true ∧ ordText (ordOf f (spl 32 s)) = s then (ordOf f (spl 32 s), 0) else ([], 6)
    else ([], 6)
  else ([], 1)
def okW (f : List UInt8 → Option ItM) : Prop := ∀ x, ItOk x → f (ordWord x) = some x
theorem no_sp {x : ItM} : (32 : UInt8) ∉ ordWord x := by
  have h1 := no32 x.index
  have h2 := no32 x.copies
  unfold ordWord
  split <;> simp [h1, h2]
theorem spl_ordText : ∀ (os : List ItM), os ≠ [] → spl 32 (ordText os) = os.map ordWord
  | [], h => absurd rfl h
  | [x], _ => by
    have : ordText [x] = ordWord x := by simp [ordText, join_one]
    rw [this, spl_none no_sp]; rfl
  | x :: y :: r, _ => by
    have h : ordText (x :: y :: r) = ordWord x ++ 32 :: ordText (y :: r) := by
      simp [ordText, join_cons, joinTail]
    rw [h, spl_app _ no_sp, spl_ordText (y :: r) (by simp)]; rfl
theorem rdOrd_go {f g : List UInt8 → Option ItM} (hg : okW g) {m : MkM} {t : List (List Int)} {s : List UInt8} (hsy : isSy m t = true) (hs : s ≠ []) (h1 : ((spl 32 s).all fun w => (f w).isSome) = true)
    (h2 : isOrd t (ordOf f (spl 32 s)) = true) (h3 : ordText (ordOf f (spl 32 s)) = s) : rdOrd g m t s = (ordOf f (spl 32 s), 0) := by
  obtain ⟨n1, n2, n3, n4, n5⟩ := isSy_num hsy
  generalize ordOf f (spl 32 s) = os at h2 h3 ⊢
  have hok := isOrd_ok h2 (by omega) (by omega)
  have hne : os ≠ [] := by
    rintro rfl
    exact hs h3.symm
  have hsp := spl_ordText os hne
  rw [h3] at hsp
  have e1 : ((spl 32 s).all fun w => (g w).isSome) = true := by
    rw [hsp, List.all_eq_true]
    intro w hw
    obtain ⟨x, hx, rfl⟩ := List.mem_map.1 hw
    rw [hg x (hok x hx)]; rfl
  have e2 : ordOf g (spl 32 s) = os := by
    rw [hsp, ordOf, List.map_map]
    apply List.ext_getElem (by simp)
    intro i q1 q2
    rw [List.getElem_map]
    show (g (ordWord os[i])).getD default = os[i]
    rw [hg _ (hok _ (List.getElem_mem q2))]; rfl
  rw [rdOrd, if_pos hsy, if_neg hs, if_pos e1, e2, if_pos ⟨h2, h3⟩]
theorem rdOrd_eq {f g : List UInt8 → Option ItM} (hf : okW f) (hg : okW g) (m : MkM) (t : List (List Int)) (s : List UInt8) : rdOrd f m t s = rdOrd g m t s := by
  by_cases hsy : isSy m t = true
  · by_cases hs : s = []
    · simp [rdOrd, hsy, hs]
    · by_cases a1 : ((spl 32 s).all fun w => (f w).isSome) = true ∧ isOrd t (ordOf f (spl 32 s)) = true ∧ ordText (ordOf f (spl 32 s)) = s
      · obtain ⟨a1, a2, a3⟩ := a1
        rw [rdOrd_go hg hsy hs a1 a2 a3, rdOrd, if_pos hsy, if_neg hs, if_pos a1, if_pos ⟨a2, a3⟩]
      · by_cases b1 : ((spl 32 s).all fun w => (g w).isSome) = true ∧ isOrd t (ordOf g (spl 32 s)) = true ∧ ordText (ordOf g (spl 32 s)) = s
        · obtain ⟨b1, b2, b3⟩ := b1
          rw [rdOrd_go hf hsy hs b1 b2 b3, rdOrd, if_pos hsy, if_neg hs, if_pos b1, if_pos ⟨b2, b3⟩]
        · have key : ∀ f : List UInt8 → Option ItM, ¬ (((spl 32 s).all fun w => (f w).isSome) = true ∧ isOrd t (ordOf f (spl 32 s)) = true ∧ ordText (ordOf f (spl 32 s)) = s) → rdOrd f m t s = ([], 6) := by
            intro f hn
            rw [rdOrd, if_pos hsy, if_neg hs]
            split
            · rename_i h1
              rw [if_neg fun q => hn ⟨h1, q.1, q.2⟩]
            · rfl
          rw [key f a1, key g b1]
  · simp [rdOrd, hsy]
theorem itoa_ne (v : Int) : itoa v ≠ [] := by
  unfold itoa
  split
  · simp
  · exact dec_ne _
theorem spl_word (x : ItM) : spl 120 (ordWord x) = [(if x.key then 107 else 99) :: itoa x.index, itoa x.copies] := by
  have h1 : (120 : UInt8) ∉ itoa x.index := itoa_no (by decide) (by decide) _
  have h2 : (120 : UInt8) ∉ itoa x.copies := itoa_no (by decide) (by decide) _
  have h3 : ordWord x = ((if x.key then 107 else 99) :: itoa x.index) ++ 120 :: itoa x.copies := by
    unfold ordWord
    split <;> simp
  rw [h3, spl_app, spl_none h2]
  split <;> simp [h1]
theorem nd_ok {n : Nat} (h : n ≤ 1000000) : nDigits n ≤ 13 := by
  rcases Nat.lt_or_ge 13 (nDigits n) with h1 | h1
  · exfalso
    have h2 : ∀ k u, k ≤ nDigits u → 1 ≤ k → 10 ^ (k - 1) ≤ u ∨ u = 0 := by
      intro k
      induction k with
      | zero => intro u _ h; omega
      | succ k ih =>
        intro u hk _
        by_cases hu : u < 10
        · rw [nDigits_small hu] at hk
          have : k = 0 := by omega
          subst this
          by_cases h0 : u = 0
          · exact .inr h0
          · exact .inl (by simp; omega)
        · rw [nDigits_big hu] at hk
          rcases Nat.eq_zero_or_pos k with rfl | hk0
          · exact .inl (by simp; omega)
          · rcases ih (u / 10) (by omega) hk0 with h | h
            · left
              have e : k + 1 - 1 = (k - 1) + 1 := by omega
              rw [e, Nat.pow_succ]
              omega
            · omega
    rcases h2 14 n (by omega) (by omega) with h | h
    · have : (10 : Nat) ^ (14 - 1) = 10000000000000 := by decide
      omega
    · subst h; rw [nDigits_small (by omega)] at h1; omega
  · exact h1
theorem valD_itoa {v : Int} (h : 0 ≤ v ∧ v ≤ 1000000) : valD (itoa v) = (v, true) := by
  rw [itoa_of_nonneg h.1, valD_dec (nd_ok (by omega))]
  rw [show ((v.toNat : Nat) : Int) = v by omega]
theorem wordS_ok : okW wordS := by
  intro x hx
  obtain ⟨hi, hc⟩ := hx
  have hne := itoa_ne x.index
  have hl : 1 ≤ (itoa x.index).length := List.length_pos_iff.2 hne
  unfold wordS
  simp only [spl_word, List.getD_cons_zero, List.getD_cons_succ, List.length_cons, List.length_nil, List.drop_succ_cons, List.drop_zero, valD_itoa hi, valD_itoa hc]
  rw [if_pos (by first | (simp; done) | (simp; omega)), if_pos (by simp)]
  congr 1
  cases x with
  | mk k i c => cases k <;> rfl
theorem wordI_ok : okW wordI := by
  intro x hx
  have h64 := hx.i64
  have h1 : (120 : UInt8) ∉ itoa x.index := itoa_no (by decide) (by decide) _
  have h2 : (120 : UInt8) ∉ itoa x.copies := itoa_no (by decide) (by decide) _
  have hp : (ordWord x).drop (min 1 (ordWord x).length) = itoa x.index ++ 120 :: itoa x.copies := by
    have : 1 ≤ (ordWord x).length := by unfold ordWord; split <;> simp <;> omega
    rw [Nat.min_eq_left this]
    unfold ordWord
    split <;> simp
  have hpn : partN 120 (itoa x.index ++ 120 :: itoa x.copies) = ([x.index, x.copies], true) := by
    rw [partN, spl_app _ h1, spl_none h2]
    simp [numI_itoa h64.1, numI_itoa h64.2]
  unfold wordI
  rw [hp, hpn, if_pos ⟨rfl, rfl⟩]
  congr 1
  cases x with
  | mk k i c => cases k <;> rfl
theorem rdOrd_SI (m : MkM) (t : List (List Int)) (s : List UInt8) : rdOrd wordS m t s = rdOrd wordI m t s := rdOrd_eq wordS_ok wordI_ok m t s
theorem rdOrd_len (m : MkM) (t : List (List Int)) (s : List UInt8) (f : List UInt8 → Option ItM) : (rdOrd f m t s).1.length ≤ 20 := by
  unfold rdOrd
  split
  · split
    · simp
    · split
      · split
        · rename_i h
          have := h.1
          simp only [isOrd, Bool.and_eq_true, decide_eq_true_eq] at this
          exact this.2
        · simp
      · simp
  · simp
end Go.Vc


set_option linter.unusedVariables false
set_option linter.unusedSimpArgs false
set_option linter.unnecessarySimpa false
namespace Go.Vc
open Go.Proofs Go.Lib
set_option maxRecDepth 100000
def toldO (m : MkM) (t : List (List Int)) (os : List ItM) : List UInt8 × Int := if ordCode m t os = 0 then (ordText os, 0) else ([], ordCode m t os)
theorem ordCode_zero2 {m : MkM} {t : List (List Int)} {os : List ItM} (h : ordCode m t os = 0) : isSy m t = true ∧ isOrd t os = true := by
  unfold ordCode at h
  split at h
  · split at h
    · exact ⟨‹_›, ‹_›⟩
    · cases h
  · cases h
theorem ord_all {m : MkM} {t : List (List Int)} {os : List ItM} (k1 : isSy m t = true) (k2 : isOrd t os = true) : ∀ x ∈ os, ItOk x := by
  obtain ⟨n1, n2, n3, n4, n5⟩ := isSy_num k1
  exact isOrd_ok k2 (by omega) (by omega)
theorem isOrd_20 {t : List (List Int)} {os : List ItM} (h : isOrd t os = true) : os.length ≤ 1048576 := by
  simp only [isOrd, Bool.and_eq_true, decide_eq_true_eq] at h
  omega
theorem c_iOrderText (m : MkM) (t : List (List Int)) (h : t.length ≤ 1048576) (h2 : ∀ x ∈ t, x.length ≤ 1048576) (os : List ItM) (h3 : os.length ≤ 1048576) : Fn Tryz.prog 10 [eSy m t, eIts os] true (· = .tup [eS (toldO m t os).1, eI (toldO m t os).2]) := by
  refine Fn.of_vcN 15 [.tmp 4, .tmp 5] Tryz.func10 rfl rfl rfl rfl rfl (of_decide_eq_true rfl) ?_
  have hcode := c_orderCode m t os h h2 h3
  rcases hb : (ordCode m t os == 0) with _ | _
  · have hF : toldO m t os = ([], ordCode m t os) := by rw [toldO, if_neg (by simpa using hb)]
    have hb2 : (ordCode m t os != 0) = true := by simp [bne, hb]
    rw [hF]
    generalize ordCode m t os = c at *
    simp -dsimp -implicitDefEqProofs only [go_sem, ↓reduceIte]
    (refine sCallT_one (hcode) ?_; try simp -dsimp -implicitDefEqProofs only [go_sem, ↓reduceIte, *])
    all_goals try simp -dsimp -implicitDefEqProofs only [go_sem, ↓reduceIte, hb, hb2]
    all_goals (first | omega | (refine ⟨?_, ?_⟩ <;> omega) | (exact rfl) | (simp; done) | trace_state)
  · have hb0 : ordCode m t os = 0 := by simpa using hb
    obtain ⟨k1, k2⟩ := ordCode_zero2 hb0
    have hF : toldO m t os = (ordText os, 0) := by rw [toldO, if_pos hb0]
    rw [hF]
    rw [hb0] at hcode
    simp -dsimp -implicitDefEqProofs only [go_sem, ↓reduceIte]
    (refine sCallT_one (hcode) ?_; try simp -dsimp -implicitDefEqProofs only [go_sem, ↓reduceIte, *])
    all_goals try (refine sCallT_one (c_orderText os h3 (fun x hx => (ord_all k1 k2 x hx).i64)) ?_; try simp -dsimp -implicitDefEqProofs only [go_sem, ↓reduceIte, *])
    all_goals (first | omega | (refine ⟨?_, ?_⟩ <;> omega) | (exact rfl) | (simp; done) | trace_state)
theorem c_sOrderText (m : MkM) (t : List (List Int)) (h : t.length ≤ 1048576) (h2 : ∀ x ∈ t, x.length ≤ 1048576) (os : List ItM) (h3 : os.length ≤ 1048576) : Fn Tryz.prog 11 [eSy m t, eIts os] true (· = .tup [eS (toldO m t os).1, eI (toldO m t os).2]) := by
  refine Fn.of_vcN 15 [.tmp 4, .tmp 5] Tryz.func11 rfl rfl rfl rfl rfl (of_decide_eq_true rfl) ?_
  have hcode := c_l29System m t os h h2 h3
  rcases hb : (ordCode m t os == 0) with _ | _
  · have hF : toldO m t os = ([], ordCode m t os) := by rw [toldO, if_neg (by simpa using hb)]
    have hb2 : (ordCode m t os != 0) = true := by simp [bne, hb]
    rw [hF]
    generalize ordCode m t os = c at *
    simp -dsimp -implicitDefEqProofs only [go_sem, ↓reduceIte]
    (refine sCallT_one (hcode) ?_; try simp -dsimp -implicitDefEqProofs only [go_sem, ↓reduceIte, *])
    all_goals try simp -dsimp -implicitDefEqProofs only [go_sem, ↓reduceIte, hb, hb2]
    all_goals (first | omega | (refine ⟨?_, ?_⟩ <;> omega) | (exact rfl) | (simp; done) | trace_state)
  · have hb0 : ordCode m t os = 0 := by simpa using hb
    obtain ⟨k1, k2⟩ := ordCode_zero2 hb0
    have hF : toldO m t os = (ordText os, 0) := by rw [toldO, if_pos hb0]
    rw [hF]
    rw [hb0] at hcode
    simp -dsimp -implicitDefEqProofs only [go_sem, ↓reduceIte]
    (refine sCallT_one (hcode) ?_; try simp -dsimp -implicitDefEqProofs only [go_sem, ↓reduceIte, *])
    all_goals try (refine sCallT_one (c_l29Text os h3 (ord_all k1 k2)) ?_; try simp -dsimp -implicitDefEqProofs only [go_sem, ↓reduceIte, *])
    all_goals (first | omega | (refine ⟨?_, ?_⟩ <;> omega) | (exact rfl) | (simp; done) | trace_state)
theorem wordI_some {w : List UInt8} (h : (wordI w).isSome = true) : (partN 120 (w.drop (min 1 w.length))).2 = true ∧ (partN 120 (w.drop (min 1 w.length))).1.length = 2 ∧ 0 < w.length ∧
    (wordI w).getD default = ⟨w.getD 0 0 == 107, (partN 120 (w.drop (min 1 w.length))).1.getD 0 0, (partN 120 (w.drop (min 1 w.length))).1.getD 1 0⟩ := by
  unfold wordI at h ⊢
  split at h
  · rename_i hc
    rw [if_pos hc]
    refine ⟨hc.1, hc.2, ?_, rfl⟩
    cases w with
    | nil =>
      exfalso
      have h1 := hc.1
      have h2 := hc.2
      rw [partN] at h1 h2
      split at h1
      · rename_i hq; rw [if_pos hq] at h2; simp [spl] at h2
      · cases h1
    | cons c r => simp
  · cases h
theorem wordI_none {w : List UInt8} (h : (wordI w).isSome = false) : ¬ ((partN 120 (w.drop (min 1 w.length))).2 = true ∧ (partN 120 (w.drop (min 1 w.length))).1.length = 2) := by
  intro hc
  unfold wordI at h
  rw [if_pos hc] at h; cases h
set_option maxHeartbeats 2000000 in
theorem c_iReadOrder (m : MkM) (t : List (List Int)) (h : t.length ≤ 1048576) (h2 : ∀ x ∈ t, x.length ≤ 1048576) (s : List UInt8) (hs : s.length ≤ 1048576) : Fn Tryz.prog 13 [eSy m t, eS s] true (· = .tup [eIts (rdOrd wordI m t s).1, eI (rdOrd wordI m t s).2]) := by
  refine Fn.of_vcN 66 [.tmp 4, .tmp 5] Tryz.func13 rfl rfl rfl rfl rfl (of_decide_eq_true rfl) ?_
  rcases hsy : isSy m t with _ | _
  · have hF : rdOrd wordI m t s = ([], 1) := by rw [rdOrd, if_neg (by rw [hsy]; decide)]
    have hc := c_iIsSystem m t h h2
    rw [hsy] at hc
    rw [hF]
    simp -dsimp -implicitDefEqProofs only [go_sem, ↓reduceIte]
    (refine sCallT_one (hc) ?_; try simp -dsimp -implicitDefEqProofs only [go_sem, ↓reduceIte, *])
    all_goals (first | omega | (refine ⟨?_, ?_⟩ <;> omega) | (exact rfl) | (simp; done) | trace_state)
  have hc := c_iIsSystem m t h h2
  rw [hsy] at hc
  rcases hnil : decide (s = []) with _ | _
  rotate_left
  · have hF : rdOrd wordI m t s = ([], 0) := by rw [rdOrd, if_pos hsy, if_pos (of_decide_eq_true hnil)]
    rw [hF]
    simp -dsimp -implicitDefEqProofs only [go_sem, ↓reduceIte]
    (refine sCallT_one (hc) ?_; try simp -dsimp -implicitDefEqProofs only [go_sem, ↓reduceIte, *])
    try simp -dsimp -implicitDefEqProofs only [go_sem, ↓reduceIte, hnil]
    all_goals (first | omega | (refine ⟨?_, ?_⟩ <;> omega) | (exact rfl) | (simp; done) | trace_state)
  have hF : rdOrd wordI m t s = if ((spl 32 s).all fun w => (wordI w).isSome) = true then
      if isOrd t (ordOf wordI (spl 32 s)) = true ∧ ordText (ordOf wordI (spl 32 s)) = s then (ordOf wordI (spl 32 s), 0) else ([], 6)
    else ([], 6) := by rw [rdOrd, if_pos hsy, if_neg (of_decide_eq_false hnil)]
  rw [hF]
  clear hF
  have hpl := spl_part_len 32 s
  have hsl := spl_length_le 32 s
  obtain ⟨n1, n2, n3, n4, n5⟩ := isSy_num hsy
  simp -dsimp -implicitDefEqProofs only [go_sem, ↓reduceIte]
  (refine sCallT_one (hc) ?_; try simp -dsimp -implicitDefEqProofs only [go_sem, ↓reduceIte, *])
  try simp -dsimp -implicitDefEqProofs only [go_sem, ↓reduceIte, hnil]
  ((repeat' (with_reducible refine And.intro ?_ ?_)); all_goals try (first | omega | (refine ⟨?_, ?_⟩ <;> omega) | (exact rfl)))
  refine sCallT_one (c_Split s 32 (by omega)) ?_
  generalize spl 32 s = ws at *
  simp -dsimp -implicitDefEqProofs only [go_sem, ↓reduceIte]
  refine Later.up [1, 2, 19, 20] [28, 29, 31, 38, 52, 53] [14] ws.length (fun i => ((ws.take i).all fun w => (wordI w).isSome) = true) (fun i => [(6, .ref 14 0 0 i), (21, eI i)]) (fun i => [(14, .row 0 ⟨3, true⟩ true ((ordOf wordI (ws.take i)).map eIt))]) rfl ?_ rfl (fun i hi hI => ?_) (fun hI => ?_)
  · simp -dsimp -implicitDefEqProofs only [go_sem, ↓reduceIte]
    simp [ordOf]
  · have gi := get_some hi
    have hw := hpl ws[i] (List.getElem_mem hi)
    have hall := all_take (fun w => (wordI w).isSome) ws i hi
    have hno := fun h => all_no (p := fun w => (wordI w).isSome) hi h
    have hsome := @wordI_some ws[i]
    have hnone := @wordI_none ws[i]
    have htk : ordOf wordI (ws.take (i + 1)) = ordOf wordI (ws.take i) ++ [(wordI ws[i]).getD default] := by
      rw [List.take_succ_eq_append_getElem hi, ordOf, List.map_append]; rfl
    have hol : (ordOf wordI (ws.take i)).length = i := by simp [ordOf]; omega
    rw [htk]
    clear htk
    generalize ordOf wordI (ws.take i) = q at *
    generalize ws[i] = w at *
    have hm : (if (w.length : Int) < 1 then (w.length : Int) else 1) = ((min 1 w.length : Nat) : Int) := by split <;> omega
    have hcp := c_parted (w.drop (min 1 w.length)) 120 (by simp; omega)
    rcases hok : (wordI w).isSome with _ | _
    · have hz := hno hok
      have hn := hnone hok
      rw [if_neg (by rw [hz]; decide)]
      clear hsome hnone hno hall
      generalize partN 120 (w.drop (min 1 w.length)) = p at *
      rcases hp2 : p.2 with _ | _
      · simp -dsimp -implicitDefEqProofs only [pick_nil, pick_cons, look_nil, look_cons, dropB_nil, dropB_cons, inD_nil, inD_cons, inE_nil, inE_cons, or_t_l, or_f_l, Nat.reduceBEq, Nat.reduceDiv, Nat.reduceAdd, beq_self_eq_true, uq0, Bool.or_false, ↓reduceIte, Nat.reduceEqDiff, uq1, uq2]
        simp -dsimp -implicitDefEqProofs only [go_sem, ↓reduceIte, lt_len hi, gi, hm]
        ((repeat' (with_reducible refine And.intro ?_ ?_)); all_goals try (first | omega | (refine ⟨?_, ?_⟩ <;> omega) | (exact rfl)))
        all_goals try simp -dsimp -implicitDefEqProofs only [go_sem, ↓reduceIte, List.take_length]
        refine sCallT_one hcp ?_
        simp -dsimp -implicitDefEqProofs only [go_sem, ↓reduceIte, hp2]
        all_goals (first | omega | (refine ⟨?_, ?_⟩ <;> omega) | (exact rfl) | (simp; done) | trace_state)
      · have hp1 : ((p.1.length : Int) != 2) = true := by
          have : p.1.length ≠ 2 := fun e => hn ⟨hp2, e⟩
          simp; omega
        simp -dsimp -implicitDefEqProofs only [pick_nil, pick_cons, look_nil, look_cons, dropB_nil, dropB_cons, inD_nil, inD_cons, inE_nil, inE_cons, or_t_l, or_f_l, Nat.reduceBEq, Nat.reduceDiv, Nat.reduceAdd, beq_self_eq_true, uq0, Bool.or_false, ↓reduceIte, Nat.reduceEqDiff, uq1, uq2]
        simp -dsimp -implicitDefEqProofs only [go_sem, ↓reduceIte, lt_len hi, gi, hm]
        ((repeat' (with_reducible refine And.intro ?_ ?_)); all_goals try (first | omega | (refine ⟨?_, ?_⟩ <;> omega) | (exact rfl)))
        all_goals try simp -dsimp -implicitDefEqProofs only [go_sem, ↓reduceIte, List.take_length]
        refine sCallT_one hcp ?_
        simp -dsimp -implicitDefEqProofs only [go_sem, ↓reduceIte, hp2, hp1]
        all_goals (first | omega | (refine ⟨?_, ?_⟩ <;> omega) | (exact rfl) | (simp; done) | trace_state)
    · obtain ⟨s1, s2, s3, s4⟩ := hsome hok
      rw [s4]
      clear hsome hnone hno
      generalize partN 120 (w.drop (min 1 w.length)) = p at *
      have hp1 : ((p.1.length : Int) != 2) = false := by simp [s2]
      have g0 : p.1[0]? = some (p.1.getD 0 0) := by rw [List.getD_eq_getElem?_getD, List.getElem?_eq_getElem (by omega)]; rfl
      have g1 : p.1[1]? = some (p.1.getD 1 0) := by rw [List.getD_eq_getElem?_getD, List.getElem?_eq_getElem (by omega)]; rfl
      have hb : (((w.getD 0 0).toNat : Int) == 107) = (w.getD 0 0 == 107) := by
        rw [Bool.eq_iff_iff, beq_iff_eq, beq_iff_eq]
        constructor
        · intro e; exact UInt8.toNat_inj.1 (by have h107 : (107 : UInt8).toNat = 107 := rfl
                                               omega)
        · intro e; rw [e]; rfl
      generalize p.1.getD 0 0 = a at *
      generalize p.1.getD 1 0 = b at *
      simp -dsimp -implicitDefEqProofs only [pick_nil, pick_cons, look_nil, look_cons, dropB_nil, dropB_cons, inD_nil, inD_cons, inE_nil, inE_cons, or_t_l, or_f_l, Nat.reduceBEq, Nat.reduceDiv, Nat.reduceAdd, beq_self_eq_true, uq0, Bool.or_false, ↓reduceIte, Nat.reduceEqDiff, uq1, uq2]
      simp -dsimp -implicitDefEqProofs only [go_sem, ↓reduceIte, lt_len hi, gi, hm]
      ((repeat' (with_reducible refine And.intro ?_ ?_)); all_goals try (first | omega | (refine ⟨?_, ?_⟩ <;> omega) | (exact rfl)))
      all_goals try simp -dsimp -implicitDefEqProofs only [go_sem, ↓reduceIte, List.take_length]
      refine sCallT_one hcp ?_
      simp -dsimp -implicitDefEqProofs only [go_sem, ↓reduceIte, s1, hp1]
      refine Later.draw mixed rfl ?_
      simp -dsimp -implicitDefEqProofs only [go_sem, ↓reduceIte, g0, g1, hb]
      ((repeat' (with_reducible refine And.intro ?_ ?_)); all_goals try (first | omega | (refine ⟨?_, ?_⟩ <;> omega) | (exact rfl)))
      all_goals try simp -dsimp -implicitDefEqProofs only [go_sem, ↓reduceIte, g0, g1, hb]
      ((repeat' (with_reducible refine And.intro ?_ ?_)); all_goals try (first | omega | (refine ⟨?_, ?_⟩ <;> omega) | (exact rfl)))
      all_goals first | omega | (refine ⟨?_, ?_⟩ <;> omega) | (rw [hall, hI, hok]; rfl) | (exact rfl) | (simp [hol]; done) | (rw [← hol, take_map_len]; simp; done) | trace_state
  · rw [List.take_length] at hI ⊢
    rw [if_pos hI]
    have hol : (ordOf wordI ws).length = ws.length := by simp [ordOf]
    have hcO := fun os h3 => c_iisOrder m t os (by omega) h h2 h3
    have hcT := fun os h3 h => c_orderText os h3 h
    have hall := fun k2 => ord_all (os := ordOf wordI ws) hsy k2
    generalize ordOf wordI ws = os at *
    have hcO := hcO os (by omega)
    rcases hO : isOrd t os with _ | _
    · rw [hO] at hcO
      rw [if_neg (fun q => by cases q.1)]
      simp -dsimp -implicitDefEqProofs only [pick_nil, pick_cons, look_nil, look_cons, dropB_nil, dropB_cons, inD_nil, inD_cons, inE_nil, inE_cons, or_t_l, or_f_l, Nat.reduceBEq, Nat.reduceDiv, Nat.reduceAdd, beq_self_eq_true, uq0, Bool.or_false, ↓reduceIte, Nat.reduceEqDiff, uq1, uq2]
      simp -dsimp -implicitDefEqProofs only [go_sem, ↓reduceIte, nlt_len]
      ((repeat' (with_reducible refine And.intro ?_ ?_)); all_goals try (first | omega | (refine ⟨?_, ?_⟩ <;> omega) | (exact rfl)))
      all_goals try (rw [← hol, take_map_len])
      refine sCallT_one hcO ?_
      simp -dsimp -implicitDefEqProofs only [go_sem, ↓reduceIte]
      all_goals (first | omega | (refine ⟨?_, ?_⟩ <;> omega) | (exact rfl) | (simp; done) | trace_state)
    · rw [hO] at hcO
      have hcT := hcT os (isOrd_20 hO) (fun x hx => (hall hO x hx).i64)
      rcases hT : decide (ordText os = s) with _ | _
      · have hT2 : (ordText os != s) = true := by simpa using hT
        rw [if_neg (fun q => (of_decide_eq_false hT) q.2)]
        simp -dsimp -implicitDefEqProofs only [pick_nil, pick_cons, look_nil, look_cons, dropB_nil, dropB_cons, inD_nil, inD_cons, inE_nil, inE_cons, or_t_l, or_f_l, Nat.reduceBEq, Nat.reduceDiv, Nat.reduceAdd, beq_self_eq_true, uq0, Bool.or_false, ↓reduceIte, Nat.reduceEqDiff, uq1, uq2]
        simp -dsimp -implicitDefEqProofs only [go_sem, ↓reduceIte, nlt_len]
        ((repeat' (with_reducible refine And.intro ?_ ?_)); all_goals try (first | omega | (refine ⟨?_, ?_⟩ <;> omega) | (exact rfl)))
        all_goals try (rw [← hol, take_map_len])
        refine sCallT_one hcO ?_
        simp -dsimp -implicitDefEqProofs only [go_sem, ↓reduceIte]
        refine sCallT_one hcT ?_
        simp -dsimp -implicitDefEqProofs only [go_sem, ↓reduceIte, hT]
        ((repeat' (with_reducible refine And.intro ?_ ?_)); all_goals try (first | omega | (refine ⟨?_, ?_⟩ <;> omega) | (exact rfl)))
        all_goals first | (first | omega | (refine ⟨?_, ?_⟩ <;> omega) | (exact rfl) | (simp; done) | trace_state) | (rw [take_map_len]; done)
      · rw [if_pos ⟨rfl, of_decide_eq_true hT⟩]
        simp -dsimp -implicitDefEqProofs only [pick_nil, pick_cons, look_nil, look_cons, dropB_nil, dropB_cons, inD_nil, inD_cons, inE_nil, inE_cons, or_t_l, or_f_l, Nat.reduceBEq, Nat.reduceDiv, Nat.reduceAdd, beq_self_eq_true, uq0, Bool.or_false, ↓reduceIte, Nat.reduceEqDiff, uq1, uq2]
        simp -dsimp -implicitDefEqProofs only [go_sem, ↓reduceIte, nlt_len]
        ((repeat' (with_reducible refine And.intro ?_ ?_)); all_goals try (first | omega | (refine ⟨?_, ?_⟩ <;> omega) | (exact rfl)))
        all_goals try (rw [← hol, take_map_len])
        refine sCallT_one hcO ?_
        simp -dsimp -implicitDefEqProofs only [go_sem, ↓reduceIte]
        refine sCallT_one hcT ?_
        simp -dsimp -implicitDefEqProofs only [go_sem, ↓reduceIte, hT]
        ((repeat' (with_reducible refine And.intro ?_ ?_)); all_goals try (first | omega | (refine ⟨?_, ?_⟩ <;> omega) | (exact rfl)))
        all_goals first | (first | omega | (refine ⟨?_, ?_⟩ <;> omega) | (exact rfl) | (simp; done) | trace_state) | (rw [take_map_len]; done)
theorem wordS_some {w : List UInt8} (h : (wordS w).isSome = true) : (spl 120 w).length = 2 ∧ 2 ≤ ((spl 120 w).getD 0 []).length ∧ (valD (((spl 120 w).getD 0 []).drop 1)).2 = true ∧ (valD ((spl 120 w).getD 1 [])).2 = true ∧
    (wordS w).getD default = ⟨((spl 120 w).getD 0 []).getD 0 0 == 107, (valD (((spl 120 w).getD 0 []).drop 1)).1, (valD ((spl 120 w).getD 1 [])).1⟩ := by
  unfold wordS at h ⊢
  split at h
  · rename_i hc
    rw [if_pos hc]
    split at h
    · rename_i hd
      rw [if_pos hd]
      exact ⟨hc.1, hc.2, hd.1, hd.2, rfl⟩
    · cases h
  · cases h
theorem wordS_none {w : List UInt8} (h : (wordS w).isSome = false) : ¬ ((spl 120 w).length = 2 ∧ 2 ≤ ((spl 120 w).getD 0 []).length ∧ (valD (((spl 120 w).getD 0 []).drop 1)).2 = true ∧ (valD ((spl 120 w).getD 1 [])).2 = true) := by
  rintro ⟨h1, h2, h3, h4⟩
  unfold wordS at h
  rw [if_pos ⟨h1, h2⟩, if_pos ⟨h3, h4⟩] at h; cases h
set_option maxHeartbeats 4000000 in
theorem c_sReadOrder (m : MkM) (t : List (List Int)) (h : t.length ≤ 1048576) (h2 : ∀ x ∈ t, x.length ≤ 1048576) (s : List UInt8) (hs : s.length ≤ 1048576) : Fn Tryz.prog 14 [eSy m t, eS s] true (· = .tup [eIts (rdOrd wordS m t s).1, eI (rdOrd wordS m t s).2]) := by
  refine Fn.of_vcN 87 [.tmp 4, .tmp 5] Tryz.func14 rfl rfl rfl rfl rfl (of_decide_eq_true rfl) ?_
  have hc := c_sIsSystem m t h h2
  rcases hsy : isSy m t with _ | _
  · have hF : rdOrd wordS m t s = ([], 1) := by rw [rdOrd, if_neg (by rw [hsy]; decide)]
    rw [hsy] at hc
    rw [hF]
    simp -dsimp -implicitDefEqProofs only [go_sem, ↓reduceIte]
    (refine sCallT_one (hc) ?_; try simp -dsimp -implicitDefEqProofs only [go_sem, ↓reduceIte, *])
    all_goals (first | omega | (refine ⟨?_, ?_⟩ <;> omega) | (exact rfl) | (simp; done) | trace_state)
  rw [hsy] at hc
  rcases hnil : decide (s = []) with _ | _
  rotate_left
  · have hF : rdOrd wordS m t s = ([], 0) := by rw [rdOrd, if_pos hsy, if_pos (of_decide_eq_true hnil)]
    rw [hF]
    simp -dsimp -implicitDefEqProofs only [go_sem, ↓reduceIte]
    (refine sCallT_one (hc) ?_; try simp -dsimp -implicitDefEqProofs only [go_sem, ↓reduceIte, *])
    try simp -dsimp -implicitDefEqProofs only [go_sem, ↓reduceIte, hnil]
    all_goals (first | omega | (refine ⟨?_, ?_⟩ <;> omega) | (exact rfl) | (simp; done) | trace_state)
  have hF : rdOrd wordS m t s = if ((spl 32 s).all fun w => (wordS w).isSome) = true then
      if isOrd t (ordOf wordS (spl 32 s)) = true ∧ ordText (ordOf wordS (spl 32 s)) = s then (ordOf wordS (spl 32 s), 0) else ([], 6)
    else ([], 6) := by rw [rdOrd, if_pos hsy, if_neg (of_decide_eq_false hnil)]
  rw [hF]
  clear hF
  have hpl := spl_part_len 32 s
  have hsl := spl_length_le 32 s
  obtain ⟨n1, n2, n3, n4, n5⟩ := isSy_num hsy
  simp -dsimp -implicitDefEqProofs only [go_sem, ↓reduceIte]
  (refine sCallT_one (hc) ?_; try simp -dsimp -implicitDefEqProofs only [go_sem, ↓reduceIte, *])
  try simp -dsimp -implicitDefEqProofs only [go_sem, ↓reduceIte, hnil]
  ((repeat' (with_reducible refine And.intro ?_ ?_)); all_goals try (first | omega | (refine ⟨?_, ?_⟩ <;> omega) | (exact rfl)))
  refine sCallT_one (c_l01Split s 32 (by omega)) ?_
  generalize spl 32 s = ws at *
  simp -dsimp -implicitDefEqProofs only [go_sem, ↓reduceIte]
  refine Later.up [1, 2, 6] [25, 33, 35, 41, 49, 56, 74, 75] [22] ws.length (fun i => ((ws.take i).all fun w => (wordS w).isSome) = true) (fun i => [(7, .ref 22 0 0 i), (8, eI i)]) (fun i => [(22, .row 0 ⟨3, true⟩ true ((ordOf wordS (ws.take i)).map eIt))]) rfl ?_ rfl (fun i hi hI => ?_) (fun hI => ?_)
  · simp -dsimp -implicitDefEqProofs only [go_sem, ↓reduceIte]
    simp [ordOf]
  · have gi := get_some hi
    have hw := hpl ws[i] (List.getElem_mem hi)
    have hall := all_take (fun w => (wordS w).isSome) ws i hi
    have hno := fun h => all_no (p := fun w => (wordS w).isSome) hi h
    have hsome := @wordS_some ws[i]
    have hnone := @wordS_none ws[i]
    have htk : ordOf wordS (ws.take (i + 1)) = ordOf wordS (ws.take i) ++ [(wordS ws[i]).getD default] := by
      rw [List.take_succ_eq_append_getElem hi, ordOf, List.map_append]; rfl
    have hol : (ordOf wordS (ws.take i)).length = i := by simp [ordOf]; omega
    rw [htk]
    clear htk
    generalize ordOf wordS (ws.take i) = q at *
    generalize ws[i] = w at *
    have hcp := c_l01Split w 120 (by omega)
    have hpl2 := spl_part_len 120 w
    generalize (wordS w).getD default = x at *
    generalize (wordS w).isSome = ok at *
    generalize spl 120 w = p at *
    rcases hp1 : ((p.length : Int) != 2) with _ | _
    · have hp2 : p.length = 2 := by simp at hp1; omega
      have g0 : p[0]? = some (p.getD 0 []) := by rw [List.getD_eq_getElem?_getD, List.getElem?_eq_getElem (by omega)]; rfl
      have g1 : p[1]? = some (p.getD 1 []) := by rw [List.getD_eq_getElem?_getD, List.getElem?_eq_getElem (by omega)]; rfl
      have z0 := hpl2 _ (List.mem_of_getElem? g0)
      have z1 := hpl2 _ (List.mem_of_getElem? g1)
      generalize p.getD 0 [] = a at *
      generalize p.getD 1 [] = b at *
      rcases ha : decide ((a.length : Int) < 2) with _ | _
      · have ha2 := of_decide_eq_false ha
        have cv1 := c_l01Value (a.drop 1) (by simp; omega)
        have cv2 := c_l01Value b (by omega)
        have h1t : (1 : Int).toNat = 1 := rfl
        rcases hv1 : (valD (a.drop 1)).2 with _ | _
        · have hokf : ok = false := by
            cases ok with
            | false => rfl
            | true => have := (hsome rfl).2.2.1; rw [hv1] at this; cases this
          have hz := hno hokf
          rw [if_neg (by rw [hz]; decide)]
          clear hsome hnone hno hall
          simp -dsimp -implicitDefEqProofs only [pick_nil, pick_cons, look_nil, look_cons, dropB_nil, dropB_cons, inD_nil, inD_cons, inE_nil, inE_cons, or_t_l, or_f_l, Nat.reduceBEq, Nat.reduceDiv, Nat.reduceAdd, beq_self_eq_true, uq0, Bool.or_false, ↓reduceIte, Nat.reduceEqDiff, uq1, uq2]
          simp -dsimp -implicitDefEqProofs only [go_sem, ↓reduceIte, lt_len hi, gi]
          ((repeat' (with_reducible refine And.intro ?_ ?_)); all_goals try (first | omega | (refine ⟨?_, ?_⟩ <;> omega) | (exact rfl)))
          refine sCallT_one hcp ?_
          simp -dsimp -implicitDefEqProofs only [go_sem, ↓reduceIte, hp1, g0, g1, ha]
          ((repeat' (with_reducible refine And.intro ?_ ?_)); all_goals try (first | omega | (refine ⟨?_, ?_⟩ <;> omega) | (exact rfl)))
          all_goals try simp -dsimp -implicitDefEqProofs only [go_sem, ↓reduceIte, List.take_length, h1t]
          ((repeat' (with_reducible refine And.intro ?_ ?_)); all_goals try (first | omega | (refine ⟨?_, ?_⟩ <;> omega) | (exact rfl)))
          refine sCallT_one cv1 ?_
          simp -dsimp -implicitDefEqProofs only [go_sem, ↓reduceIte, g1]
          ((repeat' (with_reducible refine And.intro ?_ ?_)); all_goals try (first | omega | (refine ⟨?_, ?_⟩ <;> omega) | (exact rfl)))
          refine sCallT_one cv2 ?_
          simp -dsimp -implicitDefEqProofs only [go_sem, ↓reduceIte, hv1]
          ((repeat' (with_reducible refine And.intro ?_ ?_)); all_goals try (first | omega | (refine ⟨?_, ?_⟩ <;> omega) | (exact rfl)))
          all_goals (first | omega | (refine ⟨?_, ?_⟩ <;> omega) | (exact rfl) | (simp; done) | trace_state)
        · rcases hv2 : (valD b).2 with _ | _
          · have hokf : ok = false := by
              cases ok with
              | false => rfl
              | true => have := (hsome rfl).2.2.2.1; rw [hv2] at this; cases this
            have hz := hno hokf
            rw [if_neg (by rw [hz]; decide)]
            clear hsome hnone hno hall
            simp -dsimp -implicitDefEqProofs only [pick_nil, pick_cons, look_nil, look_cons, dropB_nil, dropB_cons, inD_nil, inD_cons, inE_nil, inE_cons, or_t_l, or_f_l, Nat.reduceBEq, Nat.reduceDiv, Nat.reduceAdd, beq_self_eq_true, uq0, Bool.or_false, ↓reduceIte, Nat.reduceEqDiff, uq1, uq2]
            simp -dsimp -implicitDefEqProofs only [go_sem, ↓reduceIte, lt_len hi, gi]
            ((repeat' (with_reducible refine And.intro ?_ ?_)); all_goals try (first | omega | (refine ⟨?_, ?_⟩ <;> omega) | (exact rfl)))
            refine sCallT_one hcp ?_
            simp -dsimp -implicitDefEqProofs only [go_sem, ↓reduceIte, hp1, g0, g1, ha]
            ((repeat' (with_reducible refine And.intro ?_ ?_)); all_goals try (first | omega | (refine ⟨?_, ?_⟩ <;> omega) | (exact rfl)))
            all_goals try simp -dsimp -implicitDefEqProofs only [go_sem, ↓reduceIte, List.take_length, h1t]
            ((repeat' (with_reducible refine And.intro ?_ ?_)); all_goals try (first | omega | (refine ⟨?_, ?_⟩ <;> omega) | (exact rfl)))
            refine sCallT_one cv1 ?_
            simp -dsimp -implicitDefEqProofs only [go_sem, ↓reduceIte, g1]
            ((repeat' (with_reducible refine And.intro ?_ ?_)); all_goals try (first | omega | (refine ⟨?_, ?_⟩ <;> omega) | (exact rfl)))
            refine sCallT_one cv2 ?_
            simp -dsimp -implicitDefEqProofs only [go_sem, ↓reduceIte, hv1, hv2]
            ((repeat' (with_reducible refine And.intro ?_ ?_)); all_goals try (first | omega | (refine ⟨?_, ?_⟩ <;> omega) | (exact rfl)))
            all_goals (first | omega | (refine ⟨?_, ?_⟩ <;> omega) | (exact rfl) | (simp; done) | trace_state)
          · have hokt : ok = true := by
              cases ok with
              | true => rfl
              | false => exact absurd ⟨hp2, by omega, hv1, hv2⟩ (hnone rfl)
            have hx := (hsome hokt).2.2.2.2
            have hb : (((a.getD 0 0).toNat : Int) == 107) = (a.getD 0 0 == 107) := by
              rw [Bool.eq_iff_iff, beq_iff_eq, beq_iff_eq]
              constructor
              · intro e; exact UInt8.toNat_inj.1 (by have h107 : (107 : UInt8).toNat = 107 := rfl
                                                     omega)
              · intro e; rw [e]; rfl
            rw [hx]
            clear hsome hnone hno hx
            simp -dsimp -implicitDefEqProofs only [pick_nil, pick_cons, look_nil, look_cons, dropB_nil, dropB_cons, inD_nil, inD_cons, inE_nil, inE_cons, or_t_l, or_f_l, Nat.reduceBEq, Nat.reduceDiv, Nat.reduceAdd, beq_self_eq_true, uq0, Bool.or_false, ↓reduceIte, Nat.reduceEqDiff, uq1, uq2]
            simp -dsimp -implicitDefEqProofs only [go_sem, ↓reduceIte, lt_len hi, gi]
            ((repeat' (with_reducible refine And.intro ?_ ?_)); all_goals try (first | omega | (refine ⟨?_, ?_⟩ <;> omega) | (exact rfl)))
            refine sCallT_one hcp ?_
            simp -dsimp -implicitDefEqProofs only [go_sem, ↓reduceIte, hp1, g0, g1, ha]
            ((repeat' (with_reducible refine And.intro ?_ ?_)); all_goals try (first | omega | (refine ⟨?_, ?_⟩ <;> omega) | (exact rfl)))
            all_goals try simp -dsimp -implicitDefEqProofs only [go_sem, ↓reduceIte, List.take_length, h1t]
            ((repeat' (with_reducible refine And.intro ?_ ?_)); all_goals try (first | omega | (refine ⟨?_, ?_⟩ <;> omega) | (exact rfl)))
            refine sCallT_one cv1 ?_
            simp -dsimp -implicitDefEqProofs only [go_sem, ↓reduceIte, g1]
            ((repeat' (with_reducible refine And.intro ?_ ?_)); all_goals try (first | omega | (refine ⟨?_, ?_⟩ <;> omega) | (exact rfl)))
            refine sCallT_one cv2 ?_
            simp -dsimp -implicitDefEqProofs only [go_sem, ↓reduceIte, hv1, hv2, g0, hb]
            ((repeat' (with_reducible refine And.intro ?_ ?_)); all_goals try (first | omega | (refine ⟨?_, ?_⟩ <;> omega) | (exact rfl)))
            all_goals first | omega | (refine ⟨?_, ?_⟩ <;> omega) | (rw [hall, hI, hokt]; rfl) | (exact rfl) | (simp [hol]; done) | (rw [← hol, take_map_len]; simp; done) | trace_state
      · have ha2 := of_decide_eq_true ha
        have hokf : ok = false := by
          cases ok with
          | false => rfl
          | true => have := (hsome rfl).2.1; omega
        have hz := hno hokf
        rw [if_neg (by rw [hz]; decide)]
        clear hsome hnone hno hall
        simp -dsimp -implicitDefEqProofs only [pick_nil, pick_cons, look_nil, look_cons, dropB_nil, dropB_cons, inD_nil, inD_cons, inE_nil, inE_cons, or_t_l, or_f_l, Nat.reduceBEq, Nat.reduceDiv, Nat.reduceAdd, beq_self_eq_true, uq0, Bool.or_false, ↓reduceIte, Nat.reduceEqDiff, uq1, uq2]
        simp -dsimp -implicitDefEqProofs only [go_sem, ↓reduceIte, lt_len hi, gi]
        ((repeat' (with_reducible refine And.intro ?_ ?_)); all_goals try (first | omega | (refine ⟨?_, ?_⟩ <;> omega) | (exact rfl)))
        refine sCallT_one hcp ?_
        simp -dsimp -implicitDefEqProofs only [go_sem, ↓reduceIte, hp1, g0, ha]
        ((repeat' (with_reducible refine And.intro ?_ ?_)); all_goals try (first | omega | (refine ⟨?_, ?_⟩ <;> omega) | (exact rfl)))
        all_goals (first | omega | (refine ⟨?_, ?_⟩ <;> omega) | (exact rfl) | (simp; done) | trace_state)
    · have hokf : ok = false := by
        cases ok with
        | false => rfl
        | true => have := (hsome rfl).1; simp at hp1; omega
      have hz := hno hokf
      rw [if_neg (by rw [hz]; decide)]
      clear hsome hnone hno hall
      simp -dsimp -implicitDefEqProofs only [pick_nil, pick_cons, look_nil, look_cons, dropB_nil, dropB_cons, inD_nil, inD_cons, inE_nil, inE_cons, or_t_l, or_f_l, Nat.reduceBEq, Nat.reduceDiv, Nat.reduceAdd, beq_self_eq_true, uq0, Bool.or_false, ↓reduceIte, Nat.reduceEqDiff, uq1, uq2]
      simp -dsimp -implicitDefEqProofs only [go_sem, ↓reduceIte, lt_len hi, gi]
      ((repeat' (with_reducible refine And.intro ?_ ?_)); all_goals try (first | omega | (refine ⟨?_, ?_⟩ <;> omega) | (exact rfl)))
      refine sCallT_one hcp ?_
      simp -dsimp -implicitDefEqProofs only [go_sem, ↓reduceIte, hp1]
      ((repeat' (with_reducible refine And.intro ?_ ?_)); all_goals try (first | omega | (refine ⟨?_, ?_⟩ <;> omega) | (exact rfl)))
      all_goals (first | omega | (refine ⟨?_, ?_⟩ <;> omega) | (exact rfl) | (simp; done) | trace_state)
  · rw [List.take_length] at hI ⊢
    rw [if_pos hI]
    have hol : (ordOf wordS ws).length = ws.length := by simp [ordOf]
    have hcO := fun os h3 => c_l29Valid m t os (by omega) h h2 h3
    have hcT := fun os h3 h => c_l29Text os h3 h
    have hall := fun k2 => ord_all (os := ordOf wordS ws) hsy k2
    generalize ordOf wordS ws = os at *
    have hcO := hcO os (by omega)
    rcases hO : isOrd t os with _ | _
    · rw [hO] at hcO
      rw [if_neg (fun q => by cases q.1)]
      simp -dsimp -implicitDefEqProofs only [pick_nil, pick_cons, look_nil, look_cons, dropB_nil, dropB_cons, inD_nil, inD_cons, inE_nil, inE_cons, or_t_l, or_f_l, Nat.reduceBEq, Nat.reduceDiv, Nat.reduceAdd, beq_self_eq_true, uq0, Bool.or_false, ↓reduceIte, Nat.reduceEqDiff, uq1, uq2]
      simp -dsimp -implicitDefEqProofs only [go_sem, ↓reduceIte, nlt_len]
      ((repeat' (with_reducible refine And.intro ?_ ?_)); all_goals try (first | omega | (refine ⟨?_, ?_⟩ <;> omega) | (exact rfl)))
      all_goals try (rw [← hol, take_map_len])
      refine sCallT_one hcO ?_
      simp -dsimp -implicitDefEqProofs only [go_sem, ↓reduceIte]
      all_goals (first | omega | (refine ⟨?_, ?_⟩ <;> omega) | (exact rfl) | (simp; done) | trace_state)
    · rw [hO] at hcO
      have hcT := hcT os (isOrd_20 hO) (hall hO)
      rcases hT : decide (ordText os = s) with _ | _
      · rw [if_neg (fun q => (of_decide_eq_false hT) q.2)]
        simp -dsimp -implicitDefEqProofs only [pick_nil, pick_cons, look_nil, look_cons, dropB_nil, dropB_cons, inD_nil, inD_cons, inE_nil, inE_cons, or_t_l, or_f_l, Nat.reduceBEq, Nat.reduceDiv, Nat.reduceAdd, beq_self_eq_true, uq0, Bool.or_false, ↓reduceIte, Nat.reduceEqDiff, uq1, uq2]
        simp -dsimp -implicitDefEqProofs only [go_sem, ↓reduceIte, nlt_len]
        ((repeat' (with_reducible refine And.intro ?_ ?_)); all_goals try (first | omega | (refine ⟨?_, ?_⟩ <;> omega) | (exact rfl)))
        all_goals try (rw [← hol, take_map_len])
        refine sCallT_one hcO ?_
        simp -dsimp -implicitDefEqProofs only [go_sem, ↓reduceIte]
        refine sCallT_one hcT ?_
        simp -dsimp -implicitDefEqProofs only [go_sem, ↓reduceIte, hT]
        ((repeat' (with_reducible refine And.intro ?_ ?_)); all_goals try (first | omega | (refine ⟨?_, ?_⟩ <;> omega) | (exact rfl)))
        all_goals first | (first | omega | (refine ⟨?_, ?_⟩ <;> omega) | (exact rfl) | (simp; done) | trace_state) | (rw [take_map_len]; done)
      · rw [if_pos ⟨rfl, of_decide_eq_true hT⟩]
        simp -dsimp -implicitDefEqProofs only [pick_nil, pick_cons, look_nil, look_cons, dropB_nil, dropB_cons, inD_nil, inD_cons, inE_nil, inE_cons, or_t_l, or_f_l, Nat.reduceBEq, Nat.reduceDiv, Nat.reduceAdd, beq_self_eq_true, uq0, Bool.or_false, ↓reduceIte, Nat.reduceEqDiff, uq1, uq2]
        simp -dsimp -implicitDefEqProofs only [go_sem, ↓reduceIte, nlt_len]
        ((repeat' (with_reducible refine And.intro ?_ ?_)); all_goals try (first | omega | (refine ⟨?_, ?_⟩ <;> omega) | (exact rfl)))
        all_goals try (rw [← hol, take_map_len])
        refine sCallT_one hcO ?_
        simp -dsimp -implicitDefEqProofs only [go_sem, ↓reduceIte]
        refine sCallT_one hcT ?_
        simp -dsimp -implicitDefEqProofs only [go_sem, ↓reduceIte, hT]
        ((repeat' (with_reducible refine And.intro ?_ ?_)); all_goals try (first | omega | (refine ⟨?_, ?_⟩ <;> omega) | (exact rfl)))
        all_goals first | (first | omega | (refine ⟨?_, ?_⟩ <;> omega) | (exact rfl) | (simp; done) | trace_state) | (rw [take_map_len]; done)
end Go.Vc


set_option linter.unusedVariables false
set_option linter.unusedSimpArgs false
set_option linter.unnecessarySimpa false
namespace Go.Vc
open Go.Proofs
theorem told_code (m : MkM) (t : List (List Int)) (os : List ItM) : (toldO m t os).2 = ordCode m t os := by
  unfold toldO
  split
  · rename_i h; exact h.symm
  · rfl
theorem isOrder_told (m : MkM) (t : List (List Int)) (os : List ItM) : isOrder m t os = ((toldO m t os).2 == 0) := by
  rw [told_code, isOrder, ordCode]
  cases isSy m t <;> cases isOrd t os <;> rfl
theorem told_len (m : MkM) (t : List (List Int)) (os : List ItM) : (toldO m t os).1.length ≤ 1000 := by
  unfold toldO
  split
  · rename_i h
    obtain ⟨h1, h2⟩ := ordCode_zero2 h
    have h3 := ord_all h1 h2
    have := ordText_len (os := os) fun x hx => (h3 x hx).i64
    have h4 : os.length ≤ 20 := by
      simp only [isOrd, Bool.and_eq_true, decide_eq_true_eq] at h2; exact h2.2
    simp only
    omega
  · simp
theorem told_read {m : MkM} {t : List (List Int)} {os : List ItM} (h : (toldO m t os).2 = 0) : rdOrd wordI m t (toldO m t os).1 = (os, 0) := by
  rw [told_code] at h
  obtain ⟨h1, h2⟩ := ordCode_zero2 h
  have h3 := ord_all h1 h2
  have e : (toldO m t os).1 = ordText os := by unfold toldO; rw [if_pos h]
  rw [e]
  cases os with
  | nil => rw [rdOrd, if_pos h1, if_pos ordText_nil]
  | cons x r =>
    have hsp := spl_ordText (x :: r) (by simp)
    have hne : ordText (x :: r) ≠ [] := by
      intro h0
      have h1 : (32 : UInt8) ∉ ([] : List UInt8) := by simp
      rw [h0, spl_none h1] at hsp
      have h5 := congrArg (fun l : List (List UInt8) => l.getD 0 []) hsp
      simp only [List.map_cons, List.getD_cons_zero] at h5
      have h6 : ordWord x ≠ [] := by
        unfold ordWord; split <;> simp
      exact h6 h5.symm
    generalize hos : (x :: r) = os at *
    have e1 : ((spl 32 (ordText os)).all fun w => (wordI w).isSome) = true := by
      rw [hsp, List.all_eq_true]
      intro w hw
      obtain ⟨x, hx, rfl⟩ := List.mem_map.1 hw
      rw [wordI_ok x (h3 x hx)]; rfl
    have e2 : ordOf wordI (spl 32 (ordText os)) = os := by
      rw [hsp, ordOf, List.map_map]
      apply List.ext_getElem (by simp)
      intro i q1 q2
      rw [List.getElem_map]
      show (wordI (ordWord os[i])).getD default = os[i]
      rw [wordI_ok _ (h3 _ (List.getElem_mem q2))]; rfl
    rw [rdOrd, if_pos h1, if_neg hne, if_pos e1, e2, if_pos ⟨h2, rfl⟩]
theorem read_told {m : MkM} {t : List (List Int)} {s : List UInt8} (h : (rdOrd wordI m t s).2 = 0) : toldO m t (rdOrd wordI m t s).1 = (s, 0) := by
  unfold rdOrd at *
  by_cases h1 : isSy m t = true
  · rw [if_pos h1] at *
    by_cases h2 : s = []
    · rw [if_pos h2]
      subst h2
      have : ordCode m t [] = 0 := by rw [ordCode, if_pos h1, if_pos]; rfl
      rw [toldO, if_pos this]; rfl
    · rw [if_neg h2] at *
      by_cases h3 : ((spl 32 s).all fun w => (wordI w).isSome) = true
      · rw [if_pos h3] at *
        by_cases h4 : isOrd t (ordOf wordI (spl 32 s)) = true ∧ ordText (ordOf wordI (spl 32 s)) = s
        · rw [if_pos h4]
          have : ordCode m t (ordOf wordI (spl 32 s)) = 0 := by rw [ordCode, if_pos h1, if_pos h4.1]
          rw [toldO, if_pos this, h4.2]
        · rw [if_neg h4] at h; exact absurd h (by simp)
      · rw [if_neg h3] at h; exact absurd h (by simp)
  · rw [if_neg h1] at h; exact absurd h (by simp)
theorem cpy_true (r : Int) (i : Nat) : ∀ n, cpy r i (itK true n) = if i < n then 1 else 0
  | 0 => by rw [itK_zero, cpy_nil, if_neg (by omega)]
  | n + 1 => by
    rw [itK_succ, cpy_snoc, cpy_true r i n, cpyF]
    have e : rkIt r ⟨true, (n : Int), 1⟩ = n := rfl
    rw [e]
    split <;> split <;> split <;> simp <;> omega
theorem cpy_false (r i : Nat) : ∀ n, cpy r i (itK false n) = if r ≤ i ∧ i < r + n then 1 else 0
  | 0 => by rw [itK_zero, cpy_nil, if_neg (by omega)]
  | n + 1 => by
    rw [itK_succ, cpy_snoc, cpy_false r i n, cpyF]
    have e : rkIt r ⟨false, (n : Int), 1⟩ = (r : Int) + n := rfl
    rw [e]
    split <;> split <;> split <;> simp <;> omega
theorem cpy_app (r i : Int) (a b : List ItM) : cpy r i (a ++ b) = cpy r i a + cpy r i b := by simp [cpy]
theorem cpy_full {r d i : Nat} (h : i < r + d) : cpy r i (itK true r ++ itK false d) = 1 := by
  rw [cpy_app, cpy_true, cpy_false]
  split <;> split <;> omega
theorem nrm_full (r d : Nat) : ∀ n, n ≤ r + d → nrm r (itK true r ++ itK false d) n = if n ≤ r then itK true n else itK true r ++ itK false (n - r)
  | 0, _ => by rw [if_pos (by omega), itK_zero]; rfl
  | n + 1, hn => by
    rw [nrm, cpy_full (by omega), if_pos (by decide), nrm_full r d n (by omega)]
    by_cases h1 : n + 1 ≤ r
    · rw [if_pos h1, if_pos (by omega), itK_succ]
      congr 2
      unfold itAt
      rw [if_pos (by omega)]
    · rw [if_neg h1]
      have e : itAt r n 1 = ⟨false, ((n - r : Nat) : Int), 1⟩ := by
        unfold itAt
        rw [if_neg (by omega)]
        congr 1; omega
      rw [e]
      by_cases h2 : n ≤ r
      · rw [if_pos h2]
        have : n = r := by omega
        subst this
        rw [show n + 1 - n = 0 + 1 by omega, itK_succ, itK_zero]
        simp
      · rw [if_neg h2, show n + 1 - r = (n - r) + 1 by omega, itK_succ, List.append_assoc]
theorem full_len (m : MkM) (t : List (List Int)) : (fullOrder m t).1.length ≤ 20 := by
  unfold fullOrder
  split
  · split
    · simp
    · rw [List.length_append, itK_len, itK_len]; omega
  · simp
theorem full_normal {m : MkM} {t : List (List Int)} (h : (fullOrder m t).2 = 0) : normalO m t (fullOrder m t).1 = ((fullOrder m t).1, 0) := by
  unfold fullOrder at *
  by_cases h1 : isSy m t = true
  · rw [if_pos h1] at *
    by_cases h2 : t.length + (t.getD 0 []).length > 20
    · rw [if_pos h2] at h; exact absurd h (by simp)
    · rw [if_neg h2]
      simp only
      have hmem : ∀ (b : Bool) (n : Nat) (x : ItM), x ∈ itK b n → ∃ j : Nat, j < n ∧ x = ⟨b, (j : Int), 1⟩ := by
        intro b n
        induction n with
        | zero => intro x hx; rw [itK_zero] at hx; cases hx
        | succ n ih =>
          intro x hx
          rw [itK_succ] at hx
          rcases List.mem_append.1 hx with hx | hx
          · obtain ⟨j, hj, e⟩ := ih x hx; exact ⟨j, by omega, e⟩
          · simp at hx; exact ⟨n, by omega, hx⟩
      have ho : isOrd t (itK true t.length ++ itK false (t.getD 0 []).length) = true := by
        simp only [isOrd, Bool.and_eq_true, List.all_eq_true, decide_eq_true_eq]
        refine ⟨fun x hx => ?_, by rw [List.length_append, itK_len, itK_len]; omega⟩
        rcases List.mem_append.1 hx with hx | hx
        · obtain ⟨j, hj, rfl⟩ := hmem _ _ _ hx
          generalize (t.getD 0 []).length = dd at *
          simp [itOk, isIn]; omega
        · obtain ⟨j, hj, rfl⟩ := hmem _ _ _ hx
          generalize (t.getD 0 []).length = dd at *
          simp [itOk, isIn]; omega
      have hc : ordCode m t (itK true t.length ++ itK false (t.getD 0 []).length) = 0 := by rw [ordCode, if_pos h1, if_pos ho]
      have hf : few t.length (itK true t.length ++ itK false (t.getD 0 []).length) (wide t) = true := by
        rw [few, List.all_eq_true]
        intro i hi
        have := List.mem_range.1 hi
        unfold wide at this
        rw [cpy_full this]; rfl
      rw [normalO, if_pos hc, if_pos hf]
      congr 1
      unfold wide
      rw [nrm_full _ _ _ (Nat.le_refl _)]
      have := (isSy_num h1).2.2.1
      rw [if_neg (by omega)]
      congr 2; omega
  · rw [if_neg h1] at h; exact absurd h (by simp)
end Go.Vc


set_option linter.unusedVariables false
set_option linter.unusedSimpArgs false
set_option linter.unnecessarySimpa false
namespace Go.Vc
open Go.Proofs
set_option maxRecDepth 100000
set_option maxHeartbeats 16000000 in
theorem c_FnOrders (bs : List UInt8) (h : bs.length ≤ 9223372036854775807) : Fn Tryz.prog 3 [eYs bs] true (· = eB true) := by
  refine Fn.of_vcN 158 [.tmp 2] Tryz.func3 rfl rfl rfl rfl rfl (of_decide_eq_true rfl) ?_
  simp -dsimp -implicitDefEqProofs only [go_sem, ↓reduceIte]
  refine sCallT_one (c_big bs h) ?_
  rcases hb : decide ((bs.length : Int) > 4096) with _ | _
  rotate_left
  · simp -dsimp -implicitDefEqProofs only [go_sem, ↓reduceIte, hb]
  have hl : bs.length ≤ 4096 := by have := of_decide_eq_false hb; omega
  have hlike := fun (xs : List ItM) (hx : xs.length ≤ 1000000) => c_likeItemsE xs (by omega)
  simp -dsimp -implicitDefEqProofs only [go_sem, ↓reduceIte, hb]
  refine sCallS_any2 (c_DrawOrderText bs hl) (by simp [noLabs, labs, labsL, isClo]) ?_
  rintro _ ⟨m, t, os, t1, t2, t3, t4, rfl⟩
  have hT : t.length ≤ 1048576 := by omega
  have hR : ∀ x ∈ t, x.length ≤ 1048576 := fun x hx => by have := t2 x hx; omega
  have a1 := c_iOrderText m t hT hR os (by omega)
  have a2 := c_sOrderText m t hT hR os (by omega)
  have a3 := c_iIsOrder m t os hT hR (by omega)
  have a4 := told_len m t os
  have a5 := c_iReadOrder m t hT hR (toldO m t os).1 (by omega)
  have a6 := @told_read m t os
  rw [isOrder_told] at a3
  generalize toldO m t os = A at *
  simp -dsimp -implicitDefEqProofs only [go_sem, ↓reduceIte]
  (refine sCallT_one (a1) ?_; simp -dsimp -implicitDefEqProofs only [go_sem, ↓reduceIte])
  (refine sCallT_one (a2) ?_; simp -dsimp -implicitDefEqProofs only [go_sem, ↓reduceIte])
  refine sCallS_any2 (c_DrawReadOrder bs hl) (by simp [noLabs, labs, labsL, isClo]) ?_
  rintro _ ⟨m2, u, b, u1, u2, u3, rfl⟩
  have hU : u.length ≤ 1048576 := by omega
  have hU2 : ∀ x ∈ u, x.length ≤ 1048576 := fun x hx => by have := u2 x hx; omega
  have b1 := c_iReadOrder m2 u hU hU2 b (by omega)
  have b2 := c_sReadOrder m2 u hU hU2 b (by omega)
  rw [rdOrd_SI] at b2
  have b3 := rdOrd_len m2 u b wordI
  have b4 := c_iOrderText m2 u hU hU2 (rdOrd wordI m2 u b).1 (by omega)
  have b5 := @read_told m2 u b
  generalize rdOrd wordI m2 u b = R at *
  simp -dsimp -implicitDefEqProofs only [go_sem, ↓reduceIte]
  (refine sCallT_one (b1) ?_; simp -dsimp -implicitDefEqProofs only [go_sem, ↓reduceIte])
  (refine sCallT_one (b2) ?_; simp -dsimp -implicitDefEqProofs only [go_sem, ↓reduceIte])
  refine sCallS_any2 (c_DrawFullOrder bs hl) (by simp [noLabs, labs, labsL, isClo]) ?_
  rintro _ ⟨m3, w, w1, w2, rfl⟩
  have hW : w.length ≤ 1048576 := by omega
  have hW2 : ∀ x ∈ w, x.length ≤ 1048576 := fun x hx => by have := w2 x hx; omega
  have f1 := c_iFullOrder m3 w hW hW2
  have f2 := c_sFullOrder m3 w hW hW2
  have f3 := full_len m3 w
  have f4 := c_iNormal m3 w (fullOrder m3 w).1 hW hW2 (by omega)
  have f5 := @full_normal m3 w
  generalize fullOrder m3 w = G at *
  simp -dsimp -implicitDefEqProofs only [go_sem, ↓reduceIte]
  (refine sCallT_one (f1) ?_; simp -dsimp -implicitDefEqProofs only [go_sem, ↓reduceIte])
  (refine sCallT_one (f2) ?_; simp -dsimp -implicitDefEqProofs only [go_sem, ↓reduceIte])
  have n5 : ((A.2 == 0) != (A.2 == 0)) = false := by simp
  have n6 : ((0 : Int) != 0) = false := rfl
  have n7 : ((0 : Int) == 0) = true := rfl
  have n8 : (b != b) = false := by simp
  refine sCallT_one (hlike R.1 (by omega)) ?_
  simp -dsimp -implicitDefEqProofs only [go_sem, ↓reduceIte]
  refine sCallT_one (hlike G.1 (by omega)) ?_
  simp -dsimp -implicitDefEqProofs only [go_sem, ↓reduceIte]
  refine sCallT_one a3 ?_
  simp -dsimp -implicitDefEqProofs only [go_sem, ↓reduceIte, n5]
  rcases hR : (R.2 == 0) with _ | _
  case' false =>
    simp -dsimp -implicitDefEqProofs only [go_sem, ↓reduceIte, hR]
  case' true =>
    rw [b5 (by simpa using hR)] at b4
    simp -dsimp -implicitDefEqProofs only [go_sem, ↓reduceIte, hR]
    refine sCallT_one b4 ?_
    simp -dsimp -implicitDefEqProofs only [go_sem, ↓reduceIte, n6, n8]
  all_goals
    rcases hG : (G.2 == 0) with _ | _
    case' false =>
      simp -dsimp -implicitDefEqProofs only [go_sem, ↓reduceIte, hG]
    case' true =>
      rw [f5 (by simpa using hG)] at f4
      simp -dsimp -implicitDefEqProofs only [go_sem, ↓reduceIte, hG]
      refine sCallT_one f4 ?_
      simp -dsimp -implicitDefEqProofs only [go_sem, ↓reduceIte, n6]
      refine sCallT_one (hlike G.1 (by omega)) ?_
      simp -dsimp -implicitDefEqProofs only [go_sem, ↓reduceIte]
    all_goals
      rcases hA : (A.2 != 0) with _ | _
      rotate_left
      · simp -dsimp -implicitDefEqProofs only [go_sem, ↓reduceIte, hA]
      rw [a6 (by simpa using hA)] at a5
      simp -dsimp -implicitDefEqProofs only [go_sem, ↓reduceIte, hA]
      refine sCallT_one a5 ?_
      simp -dsimp -implicitDefEqProofs only [go_sem, ↓reduceIte, n7]
      refine sCallT_one (hlike os (by omega)) ?_
      simp -dsimp -implicitDefEqProofs only [go_sem, ↓reduceIte]
      ((repeat' (with_reducible refine And.intro ?_ ?_)); all_goals try (first | omega | (refine ⟨?_, ?_⟩ <;> omega) | (exact rfl)))
      all_goals trace_state
end Go.Vc


set_option linter.unusedVariables false
set_option linter.unusedSimpArgs false
set_option linter.unnecessarySimpa false
namespace Go.Proofs.YtgdjpnahpanaoaaGreatDoor.fnOrders
open Go.Vc Go.ChangeShapes Go.WideShapes Go.ChangeAt Go.RowKit
open Go.ChangeMaps (open_string shut_string)
set_option linter.unusedVariables false
set_option maxRecDepth 100000 in
theorem lifted (os : Os) (started : os.Started) (H : Type) (enc : TypeId × Value → H) :
    ReturnsInHanded {} Tryz.checked os 3 .any (fun w args => (Rows.fnOrdersSpec.pre enc Tryz.prog Tryz.f3 [] false w args ∧ laidMetH Tryz.prog laidAll w) ∧ sizedMet enc Tryz.prog Tryz.f3 (OpenSpec.ofChange Rows.fnOrdersSpec) false w args)
      (Rows.fnOrdersSpec.post enc Tryz.prog Tryz.f3 false true false false) := by
  refine returnsAll (C := Tryz.checked) (X := fun w _ => laidMetH Tryz.prog laidAll w) (fun _ _ _ hh h => h.of_heap hh) own started (by kernel_rfl) Tryz.func3
    (ChangeSpec.witness_shaped (enc := enc) (C := Tryz.checked) (os := os) (X := fun w _ => laidMetH Tryz.prog laidAll w) false (World.laidAll Tryz.prog os laidAll) #[.slice none 0 0] 8 (World.laidAll_os _ _ _)
      (shaped_laidAll os _) (by kernel_rfl) (by kernel_rfl) (by kernel_rfl) (met_laidAll os _)) ?_
  intro W base args ds gs before hval0 hW _ _ hL hSh _
  have hval : ∀ (j : Nat) t v, Tryz.f3.params[j]? = some t → args[j]? = some v → Value.okWide Tryz.prog W .any base t v := hval0
  have hW' := hW
  obtain ⟨p, q, hA0, hV, rfl, hfz, hnd⟩ := hW
  have hA : DataW.TrodAll enc Tryz.prog W 0 (fun _ => true) true Tryz.f3.params.toList args.toList ds p := hA0
  rw [Tryz.params3] at hA hval
  obtain ⟨v0, vs0, d0, ds0, p0, q0, hargs, rfl, rfl, h0, r0⟩ := trodAll_cons hA
  obtain ⟨rfl, rfl, rfl⟩ := trodAll_nil r0
  obtain rfl : args = #[v0] := by cases args; simp_all
  obtain ⟨rfl, rfl⟩ := trodVars_none hV
  have k0 := h0
  have lt0 : ∀ x ∈ p0, x.block < W.heap.size := by obtain ⟨m, hm⟩ := k0; exact DataW.trod_lt m _ _ _ hm
  obtain ⟨x0, ok0, rd0⟩ := dec_Code.arg false (fun _ => rfl) h0 (by obtain ⟨_, e⟩ := okWide_slice Tryz.underlying22 (hval 0 22 v0 rfl rfl); obtain ⟨_, _, e⟩ := e; subst e; rfl)
  clear hA0 hval0
  refine (Fn.law (c_FnOrders x0 (by have := ok0.1; unfold maxLen at this; omega)) W (kon_all hL hSh) #[v0] rfl (fun i hi => match i, hi with
    | 0, _ => rd0)).mono fun e W' ⟨he, bel⟩ => ?_
  subst he
  exact ⟨_, rfl, _, _, _, [], _, [], hW', trodAll_mk1 (shut_bool Tryz.underlying4 _), (trodAll_cons_mk (Below.trod laidOut (by kernel_rfl) (of_decide_eq_true (by kernel_rfl)) k0 bel lt0) trodAll_mk0), rfl, bel.frame _, fun h => by cases h⟩
end Go.Proofs.YtgdjpnahpanaoaaGreatDoor.fnOrders


set_option linter.unusedVariables false
set_option linter.unusedSimpArgs false
set_option linter.unnecessarySimpa false
namespace Go.Proofs.YtgdjpnahpanaoaaGreatDoor.fnOrders
open Go.Vc Go.ChangeShapes Go.WideShapes Go.ChangeAt Go.RowKit
open Go.ChangeMaps (open_string shut_string)
set_option linter.unusedVariables false
theorem j_inPlace : (Rows.fnOrdersRow.inPlace == Tryz.pinned.checked.prog.inPlace 3) = true := by kernel_rfl
theorem j_unf : (Rows.fnOrdersRow.unfollowed == Tryz.pinned.checked.prog.unfollowed 3) = true := by kernel_rfl
end Go.Proofs.YtgdjpnahpanaoaaGreatDoor.fnOrders


set_option linter.unusedVariables false
set_option linter.unusedSimpArgs false
set_option linter.unnecessarySimpa false
namespace Go.Proofs.YtgdjpnahpanaoaaGreatDoor.fnOrders
open Go.Vc Go.ChangeShapes Go.WideShapes Go.ChangeAt Go.RowKit
open Go.ChangeMaps (open_string shut_string)
set_option linter.unusedVariables false
theorem j_rec : (Rows.fnOrdersRow.recurses == Tryz.pinned.checked.prog.recurses 3) = true := by kernel_rfl
theorem j_named : (Rows.fnOrdersRow.named == Tryz.pinned.checked.prog.varsNamed 3) = true := by kernel_rfl
end Go.Proofs.YtgdjpnahpanaoaaGreatDoor.fnOrders


set_option linter.unusedVariables false
set_option linter.unusedSimpArgs false
set_option linter.unnecessarySimpa false
namespace Go.Proofs.YtgdjpnahpanaoaaGreatDoor.fnOrders
open Go.Vc Go.ChangeShapes Go.WideShapes Go.ChangeAt Go.RowKit
open Go.ChangeMaps (open_string shut_string)
set_option linter.unusedVariables false
theorem closed : joinedFacts Tryz.pinned.checked.prog 3 Tryz.f3 Rows.fnOrdersSpec Rows.fnOrdersRow = true := by
  unfold joinedFacts
  rw [j_inPlace, j_unf, j_rec, j_named]
  kernel_rfl
theorem holds : Rows.fnOrdersRow.holds Tryz.pinned (OpenSpec.ofChange Rows.fnOrdersSpec) :=
  OpenClaim.holds_of_wide 3 Tryz.f3 rfl rfl rfl rfl rfl rfl rfl ⟨rfl, rfl, rfl, rfl, rfl⟩ rfl rfl rfl rfl rfl (by kernel_rfl) Tryz.func3 closed
    (of_decide_eq_true (by kernel_rfl)) (by unfold Func.isWrapper; first | (rw [if_pos (by decide +kernel)]; kernel_rfl) | (rw [if_neg (by decide +kernel)]; exact ⟨rfl, rfl⟩))
    (fun os started H enc _ => lifted os started H enc)
end Go.Proofs.YtgdjpnahpanaoaaGreatDoor.fnOrders


