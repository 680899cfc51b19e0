import Derived.Test.YtgdjpnahpanaoaaGreatPkLawOrderStockE
/-
  Contracts: what an order needs, the program's.
-/
set_option linter.unusedVariables false
set_option linter.unusedSimpArgs false
set_option linter.unnecessarySimpa false
namespace Go.Vc
open Go.Proofs
set_option maxRecDepth 100000
set_option maxHeartbeats 8000000
/-- the three rows that are made one by one -/
def mkM3 (D : Nat) (Z : List Int) : Nat → Mem
  | 0 => [(31, .box 0 [.val (.slice none 0 0), .val (.slice none 0 0), .val (.slice none 0 0)])]
  | 1 => [(31, .box 0 [.ref 900001 0 0 D, .val (.slice none 0 0), .val (.slice none 0 0)]), (900001, .row 0 ⟨1, false⟩ true (Z.map eI))]
  | 2 => [(31, .box 0 [.ref 900001 0 0 D, .ref 900002 0 0 D, .val (.slice none 0 0)]), (900001, .row 0 ⟨1, false⟩ true (Z.map eI)), (900002, .row 0 ⟨1, false⟩ true (Z.map eI))]
  | _ => [(31, .box 0 [.ref 900001 0 0 D, .ref 900002 0 0 D, .ref 900003 0 0 D]), (900001, .row 0 ⟨1, false⟩ true (Z.map eI)), (900002, .row 0 ⟨1, false⟩ true (Z.map eI)), (900003, .row 0 ⟨1, false⟩ true (Z.map eI))]
theorem mkM3_0 (D : Nat) (Z : List Int) : mkM3 D Z 0 = [(31, .box 0 [.val (.slice none 0 0), .val (.slice none 0 0), .val (.slice none 0 0)])] := rfl
theorem mkM3_1 (D : Nat) (Z : List Int) : mkM3 D Z 1 = [(31, .box 0 [.ref 900001 0 0 D, .val (.slice none 0 0), .val (.slice none 0 0)]), (900001, .row 0 ⟨1, false⟩ true (Z.map eI))] := rfl
theorem mkM3_2 (D : Nat) (Z : List Int) : mkM3 D Z 2 = [(31, .box 0 [.ref 900001 0 0 D, .ref 900002 0 0 D, .val (.slice none 0 0)]), (900001, .row 0 ⟨1, false⟩ true (Z.map eI)), (900002, .row 0 ⟨1, false⟩ true (Z.map eI))] := rfl
theorem mkM3_3 (D : Nat) (Z : List Int) : mkM3 D Z 3 = [(31, .box 0 [.ref 900001 0 0 D, .ref 900002 0 0 D, .ref 900003 0 0 D]), (900001, .row 0 ⟨1, false⟩ true (Z.map eI)), (900002, .row 0 ⟨1, false⟩ true (Z.map eI)), (900003, .row 0 ⟨1, false⟩ true (Z.map eI))] := rfl
def adM3 (b w d b' w' d' : List Int) : Nat → Mem
  | 0 => [(900001, .row 0 ⟨1, false⟩ true (b.map eI)), (900002, .row 0 ⟨1, false⟩ true (w.map eI)), (900003, .row 0 ⟨1, false⟩ true (d.map eI))]
  | 1 => [(900001, .row 0 ⟨1, false⟩ true (b'.map eI)), (900002, .row 0 ⟨1, false⟩ true (w.map eI)), (900003, .row 0 ⟨1, false⟩ true (d.map eI))]
  | 2 => [(900001, .row 0 ⟨1, false⟩ true (b'.map eI)), (900002, .row 0 ⟨1, false⟩ true (w'.map eI)), (900003, .row 0 ⟨1, false⟩ true (d.map eI))]
  | _ => [(900001, .row 0 ⟨1, false⟩ true (b'.map eI)), (900002, .row 0 ⟨1, false⟩ true (w'.map eI)), (900003, .row 0 ⟨1, false⟩ true (d'.map eI))]
theorem adM3_0 (b w d b' w' d' : List Int) : adM3 b w d b' w' d' 0 = [(900001, .row 0 ⟨1, false⟩ true (b.map eI)), (900002, .row 0 ⟨1, false⟩ true (w.map eI)), (900003, .row 0 ⟨1, false⟩ true (d.map eI))] := rfl
theorem adM3_1 (b w d b' w' d' : List Int) : adM3 b w d b' w' d' 1 = [(900001, .row 0 ⟨1, false⟩ true (b'.map eI)), (900002, .row 0 ⟨1, false⟩ true (w.map eI)), (900003, .row 0 ⟨1, false⟩ true (d.map eI))] := rfl
theorem adM3_2 (b w d b' w' d' : List Int) : adM3 b w d b' w' d' 2 = [(900001, .row 0 ⟨1, false⟩ true (b'.map eI)), (900002, .row 0 ⟨1, false⟩ true (w'.map eI)), (900003, .row 0 ⟨1, false⟩ true (d.map eI))] := rfl
theorem adM3_3 (b w d b' w' d' : List Int) : adM3 b w d b' w' d' 3 = [(900001, .row 0 ⟨1, false⟩ true (b'.map eI)), (900002, .row 0 ⟨1, false⟩ true (w'.map eI)), (900003, .row 0 ⟨1, false⟩ true (d'.map eI))] := rfl
theorem d03 : decide ((0 : Int) < ((3 : Nat) : Int)) = true := rfl
theorem d13 : decide (((1 : Nat) : Int) < ((3 : Nat) : Int)) = true := rfl
theorem d23 : decide (((2 : Nat) : Int) < ((3 : Nat) : Int)) = true := rfl
theorem d33 : decide (((3 : Nat) : Int) < ((3 : Nat) : Int)) = false := rfl
theorem t1n : (((1 : Nat) : Int)).toNat = 1 := rfl
theorem t2n : (((2 : Nat) : Int)).toNat = 2 := rfl
theorem c_iOrderStock (m : MkM) (t cuts : List (List Int)) (os : List ItM) (h : t.length ≤ 1048576) (h2 : ∀ x ∈ t, x.length ≤ 1048576) (h3 : cuts.length ≤ 1048576) (h4 : ∀ x ∈ cuts, x.length ≤ 1048576) (h5 : os.length ≤ 1048576) : Fn Tryz.prog 13 [eSy m t, eIss cuts, eIts os] true (· = stockR m t cuts os) := by
  refine Fn.of_vcN 113 [.tmp 6, .tmp 7, .tmp 8, .tmp 9] Tryz.func13 rfl rfl rfl rfl rfl (of_decide_eq_true rfl) ?_
  have hq := c_designOrderCode m t cuts os h h2 h3 h4 h5
  unfold stockR
  rcases hb : (isDes m t cuts && isOrd t os) with _ | _
  · have hne : stockCode m t cuts os ≠ 0 := by
      unfold stockCode
      cases h6 : isDes m t cuts <;> cases h7 : isOrd t os <;> simp_all
    rw [if_neg hne]
    have hne' : (stockCode m t cuts os != 0) = true := by simp [hne]
    generalize stockCode m t cuts os = c at *
    simp -dsimp -implicitDefEqProofs only [go_sem, ↓reduceIte, Nat.reduceEqDiff, Nat.reduceLT, Nat.reduceAdd, Nat.reduceMul, Nat.reduceLeDiff, Nat.le_refl, Int.natCast_zero, Int.toNat_natCast, Int.reduceToNat]
    refine sCallT_one hq ?_
    simp -dsimp -implicitDefEqProofs only [go_sem, ↓reduceIte, Nat.reduceEqDiff, Nat.reduceLT, Nat.reduceAdd, Nat.reduceMul, Nat.reduceLeDiff, Nat.le_refl, Int.natCast_zero, Int.toNat_natCast, Int.reduceToNat, hne']
    ((repeat' (with_reducible refine And.intro ?_ ?_)); all_goals try (first | omega | (refine ⟨?_, ?_⟩ <;> omega) | (exact rfl)))
  obtain ⟨hd, ho⟩ := Bool.and_eq_true_iff.1 hb
  have h0 : stockCode m t cuts os = 0 := by rw [stockCode, if_pos hd, if_pos ho]
  rw [if_pos h0]
  rw [h0] at hq
  obtain ⟨hs, hc⟩ := isDes_out hd
  have hmk := isSy_mk hs
  have ⟨⟨n1, n2⟩, n3, n4⟩ := isMk_num hmk
  obtain ⟨k1, k2, k3, k4, k5⟩ := isSy_num hs
  obtain ⟨c1, c2⟩ := isCutsOf_out hc
  obtain ⟨o1, o2⟩ := isOrd_out ho
  have hok := fun i (hi : i ≤ os.length) => osTo_ok hs hc ho i hi
  have hlocks := c_partLocks m t cuts hmk (by omega) (by omega) (by omega) (fun i hi => k5 i hi) (by omega) (fun x hx => key1_out (c2 x hx))
  have hLS := locksTo_len m t cuts (t.getD 0 []).length
  have hLg := fun k (hk : k < (t.getD 0 []).length) => locksTo_get m t cuts hk
  generalize locksTo m t cuts (t.getD 0 []).length = LS at *
  simp -dsimp -implicitDefEqProofs only [go_sem, ↓reduceIte, Nat.reduceEqDiff, Nat.reduceLT, Nat.reduceAdd, Nat.reduceMul, Nat.reduceLeDiff, Nat.le_refl, Int.natCast_zero, Int.toNat_natCast, Int.reduceToNat]
  refine sCallT_one hq ?_
  simp -dsimp -implicitDefEqProofs only [go_sem, ↓reduceIte, Nat.reduceEqDiff, Nat.reduceLT, Nat.reduceAdd, Nat.reduceMul, Nat.reduceLeDiff, Nat.le_refl, Int.natCast_zero, Int.toNat_natCast, Int.reduceToNat]
  refine Later.draw mixed rfl ?_
  simp -dsimp -implicitDefEqProofs only [go_sem, ↓reduceIte, Nat.reduceEqDiff, Nat.reduceLT, Nat.reduceAdd, Nat.reduceMul, Nat.reduceLeDiff, Nat.le_refl, Int.natCast_zero, Int.toNat_natCast, Int.reduceToNat]
  ((repeat' (with_reducible refine And.intro ?_ ?_)); all_goals try (first | omega | (refine ⟨?_, ?_⟩ <;> omega) | (exact rfl)))
  refine sCallXS_one hlocks (by simp [noLabs, labs, labsL, isClo]) ?_
  clear hlocks hq
  simp -dsimp -implicitDefEqProofs only [go_sem, ↓reduceIte, Nat.reduceEqDiff, Nat.reduceLT, Nat.reduceAdd, Nat.reduceMul, Nat.reduceLeDiff, Nat.le_refl, Int.natCast_zero, Int.toNat_natCast, Int.reduceToNat]
  ((repeat' (with_reducible refine And.intro ?_ ?_)); all_goals try (first | omega | (refine ⟨?_, ?_⟩ <;> omega) | (exact rfl)))
  refine Later.boxed 31 0 _ rfl (by simp) (by simp [isFlat]) ?_
  refine Later.upR [2, 3, 11, 12, 36] [45] [31, 900001, 900002, 900003] 3 (fun _ => True) (fun i => [(37, eI i)]) (fun i => mkM3 m.depths.toNat (List.replicate m.depths.toNat 0) i) trivial (.here ?_) rfl (fun i hi _ => ?_) (fun _ => ?_)
  · simp -dsimp -implicitDefEqProofs only [go_sem, ↓reduceIte, Nat.reduceEqDiff, Nat.reduceLT, Nat.reduceAdd, Nat.reduceMul, Nat.reduceLeDiff, Nat.le_refl, Int.natCast_zero, Int.toNat_natCast, Int.reduceToNat, mkM3_0]
  · have hc3 : i = 0 ∨ i = 1 ∨ i = 2 := by omega
    rcases hc3 with rfl | rfl | rfl
    · rw [mkM3_0, mkM3_1]
      simp -dsimp -implicitDefEqProofs only [pick_nil, pick_cons, look_nil, look_cons, dropB_nil, dropB_cons, inD_nil, inD_cons, inE_nil, inE_cons, or_t_l, or_f_l, Nat.reduceBEq, Nat.reduceDiv, Nat.reduceAdd, beq_self_eq_true, Bool.false_eq_true, Bool.or_false, ↓reduceIte, Nat.reduceEqDiff, List.cons_append, List.nil_append]
      simp -dsimp -implicitDefEqProofs only [go_sem, ↓reduceIte, Nat.reduceEqDiff, Nat.reduceLT, Nat.reduceAdd, Nat.reduceMul, Nat.reduceLeDiff, Nat.le_refl, Int.natCast_zero, Int.toNat_natCast, Int.reduceToNat, d03, d13, d23, t1n, t2n]
      ((repeat' (with_reducible refine And.intro ?_ ?_)); all_goals try (first | omega | (refine ⟨?_, ?_⟩ <;> omega) | (exact rfl)))
      all_goals first
        | (refine RefR.one 45 900001 (by decide) (by decide) ?_
           simp -dsimp -implicitDefEqProofs only [go_sem, ↓reduceIte, Nat.reduceEqDiff, Nat.reduceLT, Nat.reduceAdd, Nat.reduceMul, Nat.reduceLeDiff, Nat.le_refl, Int.natCast_zero, Int.toNat_natCast, Int.reduceToNat, List.map_replicate]
           ((repeat' (with_reducible refine And.intro ?_ ?_)); all_goals try (first | omega | (refine ⟨?_, ?_⟩ <;> omega) | (exact rfl))))
        | trace_state
    · rw [mkM3_1, mkM3_2]
      simp -dsimp -implicitDefEqProofs only [pick_nil, pick_cons, look_nil, look_cons, dropB_nil, dropB_cons, inD_nil, inD_cons, inE_nil, inE_cons, or_t_l, or_f_l, Nat.reduceBEq, Nat.reduceDiv, Nat.reduceAdd, beq_self_eq_true, Bool.false_eq_true, Bool.or_false, ↓reduceIte, Nat.reduceEqDiff, List.cons_append, List.nil_append]
      simp -dsimp -implicitDefEqProofs only [go_sem, ↓reduceIte, Nat.reduceEqDiff, Nat.reduceLT, Nat.reduceAdd, Nat.reduceMul, Nat.reduceLeDiff, Nat.le_refl, Int.natCast_zero, Int.toNat_natCast, Int.reduceToNat, d03, d13, d23, t1n, t2n]
      ((repeat' (with_reducible refine And.intro ?_ ?_)); all_goals try (first | omega | (refine ⟨?_, ?_⟩ <;> omega) | (exact rfl)))
      all_goals first
        | (refine RefR.one 45 900002 (by decide) (by decide) ?_
           simp -dsimp -implicitDefEqProofs only [go_sem, ↓reduceIte, Nat.reduceEqDiff, Nat.reduceLT, Nat.reduceAdd, Nat.reduceMul, Nat.reduceLeDiff, Nat.le_refl, Int.natCast_zero, Int.toNat_natCast, Int.reduceToNat, List.map_replicate]
           ((repeat' (with_reducible refine And.intro ?_ ?_)); all_goals try (first | omega | (refine ⟨?_, ?_⟩ <;> omega) | (exact rfl))))
        | trace_state
    · rw [mkM3_2, mkM3_3]
      simp -dsimp -implicitDefEqProofs only [pick_nil, pick_cons, look_nil, look_cons, dropB_nil, dropB_cons, inD_nil, inD_cons, inE_nil, inE_cons, or_t_l, or_f_l, Nat.reduceBEq, Nat.reduceDiv, Nat.reduceAdd, beq_self_eq_true, Bool.false_eq_true, Bool.or_false, ↓reduceIte, Nat.reduceEqDiff, List.cons_append, List.nil_append]
      simp -dsimp -implicitDefEqProofs only [go_sem, ↓reduceIte, Nat.reduceEqDiff, Nat.reduceLT, Nat.reduceAdd, Nat.reduceMul, Nat.reduceLeDiff, Nat.le_refl, Int.natCast_zero, Int.toNat_natCast, Int.reduceToNat, d03, d13, d23, t1n, t2n]
      ((repeat' (with_reducible refine And.intro ?_ ?_)); all_goals try (first | omega | (refine ⟨?_, ?_⟩ <;> omega) | (exact rfl)))
      all_goals first
        | (refine RefR.one 45 900003 (by decide) (by decide) ?_
           simp -dsimp -implicitDefEqProofs only [go_sem, ↓reduceIte, Nat.reduceEqDiff, Nat.reduceLT, Nat.reduceAdd, Nat.reduceMul, Nat.reduceLeDiff, Nat.le_refl, Int.natCast_zero, Int.toNat_natCast, Int.reduceToNat, List.map_replicate]
           ((repeat' (with_reducible refine And.intro ?_ ?_)); all_goals try (first | omega | (refine ⟨?_, ?_⟩ <;> omega) | (exact rfl))))
        | trace_state
  · rw [mkM3_3]
    simp -dsimp -implicitDefEqProofs only [pick_nil, pick_cons, look_nil, look_cons, dropB_nil, dropB_cons, inD_nil, inD_cons, inE_nil, inE_cons, or_t_l, or_f_l, Nat.reduceBEq, Nat.reduceDiv, Nat.reduceAdd, beq_self_eq_true, Bool.false_eq_true, Bool.or_false, ↓reduceIte, Nat.reduceEqDiff, List.cons_append, List.nil_append]
    simp -dsimp -implicitDefEqProofs only [go_sem, ↓reduceIte, Nat.reduceEqDiff, Nat.reduceLT, Nat.reduceAdd, Nat.reduceMul, Nat.reduceLeDiff, Nat.le_refl, Int.natCast_zero, Int.toNat_natCast, Int.reduceToNat, d33]
    refine Later.up [3, 11, 12, 48, 49] [15, 66, 74, 75, 82] [900001, 900002, 900003] os.length (fun _ => True) (fun i => [(50, eI i)]) (fun i => [(900001, .row 0 ⟨1, false⟩ true ((osTo m t cuts os i).b.map eI)), (900002, .row 0 ⟨1, false⟩ true ((osTo m t cuts os i).w.map eI)), (900003, .row 0 ⟨1, false⟩ true ((osTo m t cuts os i).d.map eI))]) trivial ?_ rfl (fun i hi _ => ?_) (fun _ => ?_)
    · simp -dsimp -implicitDefEqProofs only [go_sem, ↓reduceIte, Nat.reduceEqDiff, Nat.reduceLT, Nat.reduceAdd, Nat.reduceMul, Nat.reduceLeDiff, Nat.le_refl, Int.natCast_zero, Int.toNat_natCast, Int.reduceToNat, osTo_zero, zero3]
      ((repeat' (with_reducible refine And.intro ?_ ?_)); all_goals try (first | omega | (refine ⟨?_, ?_⟩ <;> omega) | (exact rfl)))
    · have gi := get_some hi
      have li := lt_len hi
      have oi := o2 i hi
      have e : os.getD i default = os[i] := by simp [List.getD_eq_getElem?_getD, hi]
      have hz := hok i (by omega)
      rw [osTo_succ, e]
      clear e
      generalize osTo m t cuts os i = z at *
      generalize os[i] = x at *
      obtain ⟨xk, xi, xc⟩ := x
      unfold osStep
      simp only at oi ⊢
      cases xk with
      | true =>
        simp only [if_true]
        simp -dsimp -implicitDefEqProofs only [pick_nil, pick_cons, look_nil, look_cons, dropB_nil, dropB_cons, inD_nil, inD_cons, inE_nil, inE_cons, or_t_l, or_f_l, Nat.reduceBEq, Nat.reduceDiv, Nat.reduceAdd, beq_self_eq_true, Bool.false_eq_true, Bool.or_false, ↓reduceIte, Nat.reduceEqDiff, List.cons_append, List.nil_append]
        simp -dsimp -implicitDefEqProofs only [go_sem, ↓reduceIte, Nat.reduceEqDiff, Nat.reduceLT, Nat.reduceAdd, Nat.reduceMul, Nat.reduceLeDiff, Nat.le_refl, Int.natCast_zero, Int.toNat_natCast, Int.reduceToNat, gi, li]
        ((repeat' (with_reducible refine And.intro ?_ ?_)); all_goals try (first | omega | (refine ⟨?_, ?_⟩ <;> omega) | (exact rfl)))
        all_goals trace_state
      | false =>
        simp only [Bool.false_eq_true, if_false] at oi ⊢
        obtain ⟨a1, a2, a3, a4⟩ := oi
        have hil : xi.toNat < (t.getD 0 []).length := by omega
        have hl := lock_ok hs hc hil
        have hll : ∀ y ∈ lockAt m t cuts xi.toNat, y.length ≤ 1048576 := fun y hy => by have := lockAt_sets m t cuts _ y hy; omega
        have gl := hLg _ hil
        have hsl : List.take ((xi + 1).toNat - xi.toNat) (List.drop xi.toNat (List.map eLk LS)) = [eLk (lockAt m t cuts xi.toNat)] := by
          rw [show (xi + 1).toNat - xi.toNat = 1 by omega]
          have h1 : xi.toNat < (List.map eLk LS).length := by simp; omega
          rw [List.drop_eq_getElem_cons h1]
          have h2 : LS[xi.toNat]'(by omega) = lockAt m t cuts xi.toNat := by
            have := List.getElem?_eq_getElem (show xi.toNat < LS.length by omega)
            rw [this] at gl; exact Option.some.inj gl
          simp [h2]
        have hstk := c_iStockOf m (lockAt m t cuts xi.toNat) hmk hl hll
        have hst := stockL_ok hl hmk hll
        generalize lockAt m t cuts xi.toNat = L at *
        generalize stockL m L = q at *
        obtain ⟨qb, qw, qd⟩ := q
        obtain ⟨zb, zw, zd⟩ := z
        obtain ⟨⟨s1, s1'⟩, ⟨s2, s2'⟩, ⟨s3, s3'⟩⟩ := hst
        have hst : okS m.depths.toNat 7000000 qb ∧ okS m.depths.toNat 7000000 qw ∧ okS m.depths.toNat 7000000 qd := ⟨⟨s1, s1'⟩, ⟨s2, s2'⟩, ⟨s3, s3'⟩⟩
        obtain ⟨z1, z2, z3⟩ := hz
        simp only at s1 s2 s3 z1 z2 z3 hstk ⊢
        unfold add3
        simp only
        simp -dsimp -implicitDefEqProofs only [pick_nil, pick_cons, look_nil, look_cons, dropB_nil, dropB_cons, inD_nil, inD_cons, inE_nil, inE_cons, or_t_l, or_f_l, Nat.reduceBEq, Nat.reduceDiv, Nat.reduceAdd, beq_self_eq_true, Bool.false_eq_true, Bool.or_false, ↓reduceIte, Nat.reduceEqDiff, List.cons_append, List.nil_append]
        simp -dsimp -implicitDefEqProofs only [go_sem, ↓reduceIte, Nat.reduceEqDiff, Nat.reduceLT, Nat.reduceAdd, Nat.reduceMul, Nat.reduceLeDiff, Nat.le_refl, Int.natCast_zero, Int.toNat_natCast, Int.reduceToNat, gi, li]
        ((repeat' (with_reducible refine And.intro ?_ ?_)); all_goals try (first | omega | (refine ⟨?_, ?_⟩ <;> omega) | (exact rfl)))
        refine Later.draw mixed rfl ?_
        simp -dsimp -implicitDefEqProofs only [go_sem, ↓reduceIte, Nat.reduceEqDiff, Nat.reduceLT, Nat.reduceAdd, Nat.reduceMul, Nat.reduceLeDiff, Nat.le_refl, Int.natCast_zero, Int.toNat_natCast, Int.reduceToNat, hsl]
        ((repeat' (with_reducible refine And.intro ?_ ?_)); all_goals try (first | omega | (refine ⟨?_, ?_⟩ <;> omega) | (exact rfl)))
        refine sCallX_one hstk ?_
        simp -dsimp -implicitDefEqProofs only [go_sem, ↓reduceIte, Nat.reduceEqDiff, Nat.reduceLT, Nat.reduceAdd, Nat.reduceMul, Nat.reduceLeDiff, Nat.le_refl, Int.natCast_zero, Int.toNat_natCast, Int.reduceToNat]
        ((repeat' (with_reducible refine And.intro ?_ ?_)); all_goals try (first | omega | (refine ⟨?_, ?_⟩ <;> omega) | (exact rfl)))
        refine Later.up [3, 11, 12, 15, 48, 49, 50, 74, 75] [82] [900001, 900002, 900003, 67000, 67016, 67032] 3 (fun _ => True) (fun j => [(76, eI j)]) (fun j => adM3 zb zw zd (addM zb qb xc m.depths.toNat) (addM zw qw xc m.depths.toNat) (addM zd qd xc m.depths.toNat) j) trivial ?_ rfl (fun j hj _ => ?_) (fun _ => ?_)
        · simp -dsimp -implicitDefEqProofs only [go_sem, ↓reduceIte, Nat.reduceEqDiff, Nat.reduceLT, Nat.reduceAdd, Nat.reduceMul, Nat.reduceLeDiff, Nat.le_refl, Int.natCast_zero, Int.toNat_natCast, Int.reduceToNat, adM3_0]
          ((repeat' (with_reducible refine And.intro ?_ ?_)); all_goals try (first | omega | (refine ⟨?_, ?_⟩ <;> omega) | (exact rfl)))
        · have hc3 : j = 0 ∨ j = 1 ∨ j = 2 := by omega
          rcases hc3 with rfl | rfl | rfl
          · rw [adM3_0, adM3_1]
            simp -dsimp -implicitDefEqProofs only [pick_nil, pick_cons, look_nil, look_cons, dropB_nil, dropB_cons, inD_nil, inD_cons, inE_nil, inE_cons, or_t_l, or_f_l, Nat.reduceBEq, Nat.reduceDiv, Nat.reduceAdd, beq_self_eq_true, Bool.false_eq_true, Bool.or_false, ↓reduceIte, Nat.reduceEqDiff, List.cons_append, List.nil_append]
            simp -dsimp -implicitDefEqProofs only [go_sem, ↓reduceIte, Nat.reduceEqDiff, Nat.reduceLT, Nat.reduceAdd, Nat.reduceMul, Nat.reduceLeDiff, Nat.le_refl, Int.natCast_zero, Int.toNat_natCast, Int.reduceToNat, d03, d13, d23, t1n, t2n]
            ((repeat' (with_reducible refine And.intro ?_ ?_)); all_goals try (first | omega | (refine ⟨?_, ?_⟩ <;> omega) | (exact rfl)))
            have lz := z1.1
            have lq := hst.1.1
            have tkq := take_map_all eI qb m.depths.toNat (by omega)
            try rw [tkq]
            refine Later.up [3, 11, 12, 15, 20, 48, 49, 50, 74, 75, 76, 81, 82] [] [900001] m.depths.toNat (fun _ => True) (fun n => [(83, eI n)]) (fun n => [(900001, .row 0 ⟨1, false⟩ true ((addM zb qb xc n).map eI))]) trivial ?_ rfl (fun n hn' _ => ?_) (fun _ => ?_)
            · simp -dsimp -implicitDefEqProofs only [go_sem, ↓reduceIte, Nat.reduceEqDiff, Nat.reduceLT, Nat.reduceAdd, Nat.reduceMul, Nat.reduceLeDiff, Nat.le_refl, Int.natCast_zero, Int.toNat_natCast, Int.reduceToNat, addM_zero]
              ((repeat' (with_reducible refine And.intro ?_ ?_)); all_goals try (first | omega | (refine ⟨?_, ?_⟩ <;> omega) | (exact rfl)))
              all_goals first | (rw [lq]; done) | trace_state
            · have gz := addM_at z1 qb xc hn'
              have gq := hst.1.at hn'
              have bz := z1.2 n hn'
              have mb := mul_in ⟨show 0 ≤ xc by omega, a4⟩ (hst.1.2 n hn')
              have lb := addM_len zb qb xc n
              have hlt : decide ((n : Int) < (m.depths.toNat : Int)) = true := decide_eq_true (by omega)
              rw [addM_map]
              generalize zb.getD n 0 = vb at *
              generalize qb.getD n 0 = ub at *
              generalize addM zb qb xc n = Ab at *
              have hcm : ub * xc = xc * ub := Int.mul_comm _ _
              generalize hmb : xc * ub = eb at *
              simp -dsimp -implicitDefEqProofs only [pick_nil, pick_cons, look_nil, look_cons, dropB_nil, dropB_cons, inD_nil, inD_cons, inE_nil, inE_cons, or_t_l, or_f_l, Nat.reduceBEq, Nat.reduceDiv, Nat.reduceAdd, beq_self_eq_true, Bool.false_eq_true, Bool.or_false, ↓reduceIte, Nat.reduceEqDiff, List.cons_append, List.nil_append]
              simp -dsimp -implicitDefEqProofs only [go_sem, ↓reduceIte, Nat.reduceEqDiff, Nat.reduceLT, Nat.reduceAdd, Nat.reduceMul, Nat.reduceLeDiff, Nat.le_refl, Int.natCast_zero, Int.toNat_natCast, Int.reduceToNat, hlt, lq, gq]
              ((repeat' (with_reducible refine And.intro ?_ ?_)); all_goals try (first | omega | (refine ⟨?_, ?_⟩ <;> omega) | (exact rfl)))
              refine Later.draw mixed rfl ?_
              simp -dsimp -implicitDefEqProofs only [go_sem, ↓reduceIte, Nat.reduceEqDiff, Nat.reduceLT, Nat.reduceAdd, Nat.reduceMul, Nat.reduceLeDiff, Nat.le_refl, Int.natCast_zero, Int.toNat_natCast, Int.reduceToNat, d03, d13, d23, t1n, t2n, gz, gq, hcm]
              ((repeat' (with_reducible refine And.intro ?_ ?_)); all_goals try (first | omega | (refine ⟨?_, ?_⟩ <;> omega) | (exact rfl)))
              all_goals first | (rw [lq]; done) | trace_state
            · have hlt : decide (((m.depths.toNat : Nat) : Int) < (m.depths.toNat : Int)) = false := decide_eq_false (by omega)
              simp -dsimp -implicitDefEqProofs only [pick_nil, pick_cons, look_nil, look_cons, dropB_nil, dropB_cons, inD_nil, inD_cons, inE_nil, inE_cons, or_t_l, or_f_l, Nat.reduceBEq, Nat.reduceDiv, Nat.reduceAdd, beq_self_eq_true, Bool.false_eq_true, Bool.or_false, ↓reduceIte, Nat.reduceEqDiff, List.cons_append, List.nil_append]
              simp -dsimp -implicitDefEqProofs only [go_sem, ↓reduceIte, Nat.reduceEqDiff, Nat.reduceLT, Nat.reduceAdd, Nat.reduceMul, Nat.reduceLeDiff, Nat.le_refl, Int.natCast_zero, Int.toNat_natCast, Int.reduceToNat, hlt, lq]
              ((repeat' (with_reducible refine And.intro ?_ ?_)); all_goals try (first | omega | (refine ⟨?_, ?_⟩ <;> omega) | (exact rfl)))
              all_goals trace_state
          · rw [adM3_1, adM3_2]
            simp -dsimp -implicitDefEqProofs only [pick_nil, pick_cons, look_nil, look_cons, dropB_nil, dropB_cons, inD_nil, inD_cons, inE_nil, inE_cons, or_t_l, or_f_l, Nat.reduceBEq, Nat.reduceDiv, Nat.reduceAdd, beq_self_eq_true, Bool.false_eq_true, Bool.or_false, ↓reduceIte, Nat.reduceEqDiff, List.cons_append, List.nil_append]
            simp -dsimp -implicitDefEqProofs only [go_sem, ↓reduceIte, Nat.reduceEqDiff, Nat.reduceLT, Nat.reduceAdd, Nat.reduceMul, Nat.reduceLeDiff, Nat.le_refl, Int.natCast_zero, Int.toNat_natCast, Int.reduceToNat, d03, d13, d23, t1n, t2n]
            ((repeat' (with_reducible refine And.intro ?_ ?_)); all_goals try (first | omega | (refine ⟨?_, ?_⟩ <;> omega) | (exact rfl)))
            have lz := z2.1
            have lq := hst.2.1.1
            have tkq := take_map_all eI qw m.depths.toNat (by omega)
            try rw [tkq]
            refine Later.up [3, 11, 12, 15, 20, 48, 49, 50, 74, 75, 76, 81, 82] [] [900002] m.depths.toNat (fun _ => True) (fun n => [(83, eI n)]) (fun n => [(900002, .row 0 ⟨1, false⟩ true ((addM zw qw xc n).map eI))]) trivial ?_ rfl (fun n hn' _ => ?_) (fun _ => ?_)
            · simp -dsimp -implicitDefEqProofs only [go_sem, ↓reduceIte, Nat.reduceEqDiff, Nat.reduceLT, Nat.reduceAdd, Nat.reduceMul, Nat.reduceLeDiff, Nat.le_refl, Int.natCast_zero, Int.toNat_natCast, Int.reduceToNat, addM_zero]
              ((repeat' (with_reducible refine And.intro ?_ ?_)); all_goals try (first | omega | (refine ⟨?_, ?_⟩ <;> omega) | (exact rfl)))
              all_goals first | (rw [lq]; done) | trace_state
            · have gz := addM_at z2 qw xc hn'
              have gq := hst.2.1.at hn'
              have bz := z2.2 n hn'
              have mb := mul_in ⟨show 0 ≤ xc by omega, a4⟩ (hst.2.1.2 n hn')
              have lb := addM_len zw qw xc n
              have hlt : decide ((n : Int) < (m.depths.toNat : Int)) = true := decide_eq_true (by omega)
              rw [addM_map]
              generalize zw.getD n 0 = vb at *
              generalize qw.getD n 0 = ub at *
              generalize addM zw qw xc n = Ab at *
              have hcm : ub * xc = xc * ub := Int.mul_comm _ _
              generalize hmb : xc * ub = eb at *
              simp -dsimp -implicitDefEqProofs only [pick_nil, pick_cons, look_nil, look_cons, dropB_nil, dropB_cons, inD_nil, inD_cons, inE_nil, inE_cons, or_t_l, or_f_l, Nat.reduceBEq, Nat.reduceDiv, Nat.reduceAdd, beq_self_eq_true, Bool.false_eq_true, Bool.or_false, ↓reduceIte, Nat.reduceEqDiff, List.cons_append, List.nil_append]
              simp -dsimp -implicitDefEqProofs only [go_sem, ↓reduceIte, Nat.reduceEqDiff, Nat.reduceLT, Nat.reduceAdd, Nat.reduceMul, Nat.reduceLeDiff, Nat.le_refl, Int.natCast_zero, Int.toNat_natCast, Int.reduceToNat, hlt, lq, gq]
              ((repeat' (with_reducible refine And.intro ?_ ?_)); all_goals try (first | omega | (refine ⟨?_, ?_⟩ <;> omega) | (exact rfl)))
              refine Later.draw mixed rfl ?_
              simp -dsimp -implicitDefEqProofs only [go_sem, ↓reduceIte, Nat.reduceEqDiff, Nat.reduceLT, Nat.reduceAdd, Nat.reduceMul, Nat.reduceLeDiff, Nat.le_refl, Int.natCast_zero, Int.toNat_natCast, Int.reduceToNat, d03, d13, d23, t1n, t2n, gz, gq, hcm]
              ((repeat' (with_reducible refine And.intro ?_ ?_)); all_goals try (first | omega | (refine ⟨?_, ?_⟩ <;> omega) | (exact rfl)))
              all_goals first | (rw [lq]; done) | trace_state
            · have hlt : decide (((m.depths.toNat : Nat) : Int) < (m.depths.toNat : Int)) = false := decide_eq_false (by omega)
              simp -dsimp -implicitDefEqProofs only [pick_nil, pick_cons, look_nil, look_cons, dropB_nil, dropB_cons, inD_nil, inD_cons, inE_nil, inE_cons, or_t_l, or_f_l, Nat.reduceBEq, Nat.reduceDiv, Nat.reduceAdd, beq_self_eq_true, Bool.false_eq_true, Bool.or_false, ↓reduceIte, Nat.reduceEqDiff, List.cons_append, List.nil_append]
              simp -dsimp -implicitDefEqProofs only [go_sem, ↓reduceIte, Nat.reduceEqDiff, Nat.reduceLT, Nat.reduceAdd, Nat.reduceMul, Nat.reduceLeDiff, Nat.le_refl, Int.natCast_zero, Int.toNat_natCast, Int.reduceToNat, hlt, lq]
              ((repeat' (with_reducible refine And.intro ?_ ?_)); all_goals try (first | omega | (refine ⟨?_, ?_⟩ <;> omega) | (exact rfl)))
              all_goals trace_state
          · rw [adM3_2, adM3_3]
            simp -dsimp -implicitDefEqProofs only [pick_nil, pick_cons, look_nil, look_cons, dropB_nil, dropB_cons, inD_nil, inD_cons, inE_nil, inE_cons, or_t_l, or_f_l, Nat.reduceBEq, Nat.reduceDiv, Nat.reduceAdd, beq_self_eq_true, Bool.false_eq_true, Bool.or_false, ↓reduceIte, Nat.reduceEqDiff, List.cons_append, List.nil_append]
            simp -dsimp -implicitDefEqProofs only [go_sem, ↓reduceIte, Nat.reduceEqDiff, Nat.reduceLT, Nat.reduceAdd, Nat.reduceMul, Nat.reduceLeDiff, Nat.le_refl, Int.natCast_zero, Int.toNat_natCast, Int.reduceToNat, d03, d13, d23, t1n, t2n]
            ((repeat' (with_reducible refine And.intro ?_ ?_)); all_goals try (first | omega | (refine ⟨?_, ?_⟩ <;> omega) | (exact rfl)))
            have lz := z3.1
            have lq := hst.2.2.1
            have tkq := take_map_all eI qd m.depths.toNat (by omega)
            try rw [tkq]
            refine Later.up [3, 11, 12, 15, 20, 48, 49, 50, 74, 75, 76, 81, 82] [] [900003] m.depths.toNat (fun _ => True) (fun n => [(83, eI n)]) (fun n => [(900003, .row 0 ⟨1, false⟩ true ((addM zd qd xc n).map eI))]) trivial ?_ rfl (fun n hn' _ => ?_) (fun _ => ?_)
            · simp -dsimp -implicitDefEqProofs only [go_sem, ↓reduceIte, Nat.reduceEqDiff, Nat.reduceLT, Nat.reduceAdd, Nat.reduceMul, Nat.reduceLeDiff, Nat.le_refl, Int.natCast_zero, Int.toNat_natCast, Int.reduceToNat, addM_zero]
              ((repeat' (with_reducible refine And.intro ?_ ?_)); all_goals try (first | omega | (refine ⟨?_, ?_⟩ <;> omega) | (exact rfl)))
              all_goals first | (rw [lq]; done) | trace_state
            · have gz := addM_at z3 qd xc hn'
              have gq := hst.2.2.at hn'
              have bz := z3.2 n hn'
              have mb := mul_in ⟨show 0 ≤ xc by omega, a4⟩ (hst.2.2.2 n hn')
              have lb := addM_len zd qd xc n
              have hlt : decide ((n : Int) < (m.depths.toNat : Int)) = true := decide_eq_true (by omega)
              rw [addM_map]
              generalize zd.getD n 0 = vb at *
              generalize qd.getD n 0 = ub at *
              generalize addM zd qd xc n = Ab at *
              have hcm : ub * xc = xc * ub := Int.mul_comm _ _
              generalize hmb : xc * ub = eb at *
              simp -dsimp -implicitDefEqProofs only [pick_nil, pick_cons, look_nil, look_cons, dropB_nil, dropB_cons, inD_nil, inD_cons, inE_nil, inE_cons, or_t_l, or_f_l, Nat.reduceBEq, Nat.reduceDiv, Nat.reduceAdd, beq_self_eq_true, Bool.false_eq_true, Bool.or_false, ↓reduceIte, Nat.reduceEqDiff, List.cons_append, List.nil_append]
              simp -dsimp -implicitDefEqProofs only [go_sem, ↓reduceIte, Nat.reduceEqDiff, Nat.reduceLT, Nat.reduceAdd, Nat.reduceMul, Nat.reduceLeDiff, Nat.le_refl, Int.natCast_zero, Int.toNat_natCast, Int.reduceToNat, hlt, lq, gq]
              ((repeat' (with_reducible refine And.intro ?_ ?_)); all_goals try (first | omega | (refine ⟨?_, ?_⟩ <;> omega) | (exact rfl)))
              refine Later.draw mixed rfl ?_
              simp -dsimp -implicitDefEqProofs only [go_sem, ↓reduceIte, Nat.reduceEqDiff, Nat.reduceLT, Nat.reduceAdd, Nat.reduceMul, Nat.reduceLeDiff, Nat.le_refl, Int.natCast_zero, Int.toNat_natCast, Int.reduceToNat, d03, d13, d23, t1n, t2n, gz, gq, hcm]
              ((repeat' (with_reducible refine And.intro ?_ ?_)); all_goals try (first | omega | (refine ⟨?_, ?_⟩ <;> omega) | (exact rfl)))
              all_goals first | (rw [lq]; done) | trace_state
            · have hlt : decide (((m.depths.toNat : Nat) : Int) < (m.depths.toNat : Int)) = false := decide_eq_false (by omega)
              simp -dsimp -implicitDefEqProofs only [pick_nil, pick_cons, look_nil, look_cons, dropB_nil, dropB_cons, inD_nil, inD_cons, inE_nil, inE_cons, or_t_l, or_f_l, Nat.reduceBEq, Nat.reduceDiv, Nat.reduceAdd, beq_self_eq_true, Bool.false_eq_true, Bool.or_false, ↓reduceIte, Nat.reduceEqDiff, List.cons_append, List.nil_append]
              simp -dsimp -implicitDefEqProofs only [go_sem, ↓reduceIte, Nat.reduceEqDiff, Nat.reduceLT, Nat.reduceAdd, Nat.reduceMul, Nat.reduceLeDiff, Nat.le_refl, Int.natCast_zero, Int.toNat_natCast, Int.reduceToNat, hlt, lq]
              ((repeat' (with_reducible refine And.intro ?_ ?_)); all_goals try (first | omega | (refine ⟨?_, ?_⟩ <;> omega) | (exact rfl)))
              all_goals trace_state
        · rw [adM3_3]
          simp -dsimp -implicitDefEqProofs only [pick_nil, pick_cons, look_nil, look_cons, dropB_nil, dropB_cons, inD_nil, inD_cons, inE_nil, inE_cons, or_t_l, or_f_l, Nat.reduceBEq, Nat.reduceDiv, Nat.reduceAdd, beq_self_eq_true, Bool.false_eq_true, Bool.or_false, ↓reduceIte, Nat.reduceEqDiff, List.cons_append, List.nil_append]
          simp -dsimp -implicitDefEqProofs only [go_sem, ↓reduceIte, Nat.reduceEqDiff, Nat.reduceLT, Nat.reduceAdd, Nat.reduceMul, Nat.reduceLeDiff, Nat.le_refl, Int.natCast_zero, Int.toNat_natCast, Int.reduceToNat, d33]
          ((repeat' (with_reducible refine And.intro ?_ ?_)); all_goals try (first | omega | (refine ⟨?_, ?_⟩ <;> omega) | (exact rfl)))
          all_goals trace_state
    · have hz := hok os.length (Nat.le_refl _)
      generalize osTo m t cuts os os.length = z at *
      obtain ⟨⟨l1, _⟩, ⟨l2, _⟩, ⟨l3, _⟩⟩ := hz
      have t1 := take_map_all eI z.b m.depths.toNat (by omega)
      have t2 := take_map_all eI z.w m.depths.toNat (by omega)
      have t3 := take_map_all eI z.d m.depths.toNat (by omega)
      simp -dsimp -implicitDefEqProofs only [pick_nil, pick_cons, look_nil, look_cons, dropB_nil, dropB_cons, inD_nil, inD_cons, inE_nil, inE_cons, or_t_l, or_f_l, Nat.reduceBEq, Nat.reduceDiv, Nat.reduceAdd, beq_self_eq_true, Bool.false_eq_true, Bool.or_false, ↓reduceIte, Nat.reduceEqDiff, List.cons_append, List.nil_append]
      simp -dsimp -implicitDefEqProofs only [go_sem, ↓reduceIte, Nat.reduceEqDiff, Nat.reduceLT, Nat.reduceAdd, Nat.reduceMul, Nat.reduceLeDiff, Nat.le_refl, Int.natCast_zero, Int.toNat_natCast, Int.reduceToNat, nlt_len]
      refine Later.draw mixed rfl ?_
      simp -dsimp -implicitDefEqProofs only [go_sem, ↓reduceIte, Nat.reduceEqDiff, Nat.reduceLT, Nat.reduceAdd, Nat.reduceMul, Nat.reduceLeDiff, Nat.le_refl, Int.natCast_zero, Int.toNat_natCast, Int.reduceToNat]
      ((repeat' (with_reducible refine And.intro ?_ ?_)); all_goals try (first | omega | (refine ⟨?_, ?_⟩ <;> omega) | (exact rfl)))
      all_goals first | (rw [t1]; done) | (rw [t2]; done) | (rw [t3]; done) | (simp; done) | trace_state
end Go.Vc


/-
  Contracts of the laws' helpers for items.
-/
set_option linter.unusedVariables false
set_option linter.unusedSimpArgs false
set_option linter.unnecessarySimpa false
namespace Go.Vc
open Go.Proofs
set_option maxRecDepth 100000
theorem c_toItem (t : ItM) : Fn Tryz.prog 42 [eIt t] true (· = eIt t) := by
  refine Fn.of_vcN 14 [.cell 2 62] Tryz.func42 rfl rfl rfl rfl rfl (of_decide_eq_true rfl) ?_
  simp -dsimp -implicitDefEqProofs only [go_sem, ↓reduceIte, Nat.reduceEqDiff, Nat.reduceLT, Nat.reduceAdd, Nat.reduceMul, Nat.reduceLeDiff, Nat.le_refl, Int.natCast_zero, Int.toNat_natCast, Int.reduceToNat]
  repeat' (with_reducible refine And.intro ?_ ?_)
  all_goals first | omega | (simp; done)
theorem c_eqItem (t u : ItM) : Fn Tryz.prog 47 [eIt t, eIt u] true (· = eB (decide (t = u))) := by
  refine Fn.of_vcN 20 [.tmp 4] Tryz.func47 rfl rfl rfl rfl rfl (of_decide_eq_true rfl) ?_
  simp -dsimp -implicitDefEqProofs only [go_sem, ↓reduceIte, Nat.reduceEqDiff, Nat.reduceLT, Nat.reduceAdd, Nat.reduceMul, Nat.reduceLeDiff, Nat.le_refl, Int.natCast_zero, Int.toNat_natCast, Int.reduceToNat]
  repeat' (refine Br.intro (fun _ => ?_) (fun _ => ?_) <;> try simp -dsimp -implicitDefEqProofs only [go_sem, ↓reduceIte, Nat.reduceEqDiff, Nat.reduceLT, Nat.reduceAdd, Nat.reduceMul, Nat.reduceLeDiff, Nat.le_refl, Int.natCast_zero, Int.toNat_natCast, Int.reduceToNat, *])
  all_goals (cases t; cases u; simp_all)
theorem c_szItemS (xs : List ItM) (n : Int) (h : xs.length ≤ 9223372036854775807) (hn : 0 ≤ n ∧ n ≤ 1048576) : Fn Tryz.prog 8 [eIts xs, eI n] true (· = eI (if n < xs.length then -1 else n - xs.length)) := by
  refine Fn.of_vcN 12 [.tmp 4] Tryz.func8 rfl rfl rfl rfl rfl (of_decide_eq_true rfl) ?_
  simp -dsimp -implicitDefEqProofs only [go_sem, ↓reduceIte, Nat.reduceEqDiff, Nat.reduceLT, Nat.reduceAdd, Nat.reduceMul, Nat.reduceLeDiff, Nat.le_refl, Int.natCast_zero, Int.toNat_natCast, Int.reduceToNat]
  repeat' first
    | (refine Br.intro (fun _ => ?_) (fun _ => ?_) <;> try simp -dsimp -implicitDefEqProofs only [go_sem, ↓reduceIte, Nat.reduceEqDiff, Nat.reduceLT, Nat.reduceAdd, Nat.reduceMul, Nat.reduceLeDiff, Nat.le_refl, Int.natCast_zero, Int.toNat_natCast, Int.reduceToNat, *])
    | (with_reducible refine And.intro ?_ ?_)
  all_goals first
    | (refine ⟨?_, ?_⟩ <;> omega)
    | (rw [if_pos]; simp_all <;> omega)
    | (rw [if_neg]; simp_all <;> omega)
theorem c_toItemS (xs : List ItM) (h : xs.length ≤ 1048576) : Fn Tryz.prog 12 [eIts xs] true (· = eIts xs) := by
  refine Fn.of_vcN 23 [.tmp 2] Tryz.func12 rfl rfl rfl rfl rfl (of_decide_eq_true rfl) ?_
  simp -dsimp -implicitDefEqProofs only [go_sem, ↓reduceIte, Nat.reduceEqDiff, Nat.reduceLT, Nat.reduceAdd, Nat.reduceMul, Nat.reduceLeDiff, Nat.le_refl, Int.natCast_zero, Int.toNat_natCast, Int.reduceToNat]
  repeat' (with_reducible refine And.intro ?_ ?_)
  all_goals try omega
  refine Later.up [0, 3] [10, 20] [7] xs.length (fun _ => True) (fun i => [(4, eI i)]) (fun i => [(7, .row 0 ⟨3, true⟩ true (fill eIt (.agg [eB false, eI 0, eI 0]) xs i))]) trivial ?_ rfl (fun i hi _ => ?_) (fun _ => ?_)
  · simp -dsimp -implicitDefEqProofs only [go_sem, ↓reduceIte, Nat.reduceEqDiff, Nat.reduceLT, Nat.reduceAdd, Nat.reduceMul, Nat.reduceLeDiff, Nat.le_refl, Int.natCast_zero, Int.toNat_natCast, Int.reduceToNat, fill_zero]
  · simp -dsimp -implicitDefEqProofs only [pick_nil, pick_cons, look_nil, look_cons, dropB_nil, dropB_cons, inD_nil, inD_cons, inE_nil, inE_cons, or_t_l, or_f_l, Nat.reduceBEq, Nat.reduceDiv, Nat.reduceAdd, beq_self_eq_true, Bool.false_eq_true, Bool.or_false, ↓reduceIte, Nat.reduceEqDiff, List.cons_append, List.nil_append]
    simp -dsimp -implicitDefEqProofs only [go_sem, ↓reduceIte, Nat.reduceEqDiff, Nat.reduceLT, Nat.reduceAdd, Nat.reduceMul, Nat.reduceLeDiff, Nat.le_refl, Int.natCast_zero, Int.toNat_natCast, Int.reduceToNat, lt_len hi, get_some hi, fill_get _ _ _ _ hi, fill_set _ _ _ _ hi]
    repeat' first
      | (with_reducible refine And.intro ?_ ?_)
      | (refine sCallT_one (c_toItem _) ?_; try simp -dsimp -implicitDefEqProofs only [go_sem, ↓reduceIte, Nat.reduceEqDiff, Nat.reduceLT, Nat.reduceAdd, Nat.reduceMul, Nat.reduceLeDiff, Nat.le_refl, Int.natCast_zero, Int.toNat_natCast, Int.reduceToNat, *, fill_get _ _ _ _ hi, fill_set _ _ _ _ hi])
    all_goals first
      | omega
      | (refine ⟨?_, ?_⟩ <;> omega)
      | (simp; done)
  · simp -dsimp -implicitDefEqProofs only [pick_nil, pick_cons, look_nil, look_cons, dropB_nil, dropB_cons, inD_nil, inD_cons, inE_nil, inE_cons, or_t_l, or_f_l, Nat.reduceBEq, Nat.reduceDiv, Nat.reduceAdd, beq_self_eq_true, Bool.false_eq_true, Bool.or_false, ↓reduceIte, Nat.reduceEqDiff, List.cons_append, List.nil_append]
    simp -dsimp -implicitDefEqProofs only [go_sem, ↓reduceIte, Nat.reduceEqDiff, Nat.reduceLT, Nat.reduceAdd, Nat.reduceMul, Nat.reduceLeDiff, Nat.le_refl, Int.natCast_zero, Int.toNat_natCast, Int.reduceToNat, nlt_len, fill_all]
    repeat' (with_reducible refine And.intro ?_ ?_)
    all_goals first
      | omega
      | decide
      | (simp; done)
theorem c_eqItemS (xs ys : List ItM) (h : xs.length ≤ 9223372036854775807) : Fn Tryz.prog 17 [eIts xs, eIts ys] true (· = eB (decide (xs = ys))) := by
  refine Fn.of_vcN 27 [.tmp 4] Tryz.func17 rfl rfl rfl rfl rfl (of_decide_eq_true rfl) ?_
  simp -dsimp -implicitDefEqProofs only [go_sem, ↓reduceIte, Nat.reduceEqDiff, Nat.reduceLT, Nat.reduceAdd, Nat.reduceMul, Nat.reduceLeDiff, Nat.le_refl, Int.natCast_zero, Int.toNat_natCast, Int.reduceToNat]
  repeat' (refine Br.intro (fun _ => ?_) (fun _ => ?_) <;> try simp -dsimp -implicitDefEqProofs only [go_sem, ↓reduceIte, Nat.reduceEqDiff, Nat.reduceLT, Nat.reduceAdd, Nat.reduceMul, Nat.reduceLeDiff, Nat.le_refl, Int.natCast_zero, Int.toNat_natCast, Int.reduceToNat, *])
  · rw [decide_eq_false]; intro e; subst e; simp_all
  have h1 : xs.length = ys.length := by simp_all <;> omega
  refine Later.up [0, 1] [13, 25] [] xs.length (fun i => xs.take i = ys.take i) (fun i => [(5, eI i)]) (fun _ => []) rfl ?_ rfl (fun i hi hI => ?_) (fun hI => ?_)
  · simp -dsimp -implicitDefEqProofs only [go_sem, ↓reduceIte, Nat.reduceEqDiff, Nat.reduceLT, Nat.reduceAdd, Nat.reduceMul, Nat.reduceLeDiff, Nat.le_refl, Int.natCast_zero, Int.toNat_natCast, Int.reduceToNat]
  · simp -dsimp -implicitDefEqProofs only [pick_nil, pick_cons, look_nil, look_cons, dropB_nil, dropB_cons, inD_nil, inD_cons, inE_nil, inE_cons, or_t_l, or_f_l, Nat.reduceBEq, Nat.reduceDiv, Nat.reduceAdd, beq_self_eq_true, Bool.false_eq_true, Bool.or_false, ↓reduceIte, Nat.reduceEqDiff, List.cons_append, List.nil_append]
    have hy : i < ys.length := by omega
    have no : xs[i] ≠ ys[i] → decide (xs = ys) = false := eq_no hi hy
    have yes : xs[i] = ys[i] → xs.take (i + 1) = ys.take (i + 1) := eq_yes hi hy hI
    simp -dsimp -implicitDefEqProofs only [go_sem, ↓reduceIte, Nat.reduceEqDiff, Nat.reduceLT, Nat.reduceAdd, Nat.reduceMul, Nat.reduceLeDiff, Nat.le_refl, Int.natCast_zero, Int.toNat_natCast, Int.reduceToNat, lt_len hi, get_some hi]
    refine Later.draw mixed rfl ?_
    simp -dsimp -implicitDefEqProofs only [go_sem, ↓reduceIte, Nat.reduceEqDiff, Nat.reduceLT, Nat.reduceAdd, Nat.reduceMul, Nat.reduceLeDiff, Nat.le_refl, Int.natCast_zero, Int.toNat_natCast, Int.reduceToNat, get_some hi, get_some hy]
    repeat' first
      | (refine Br.intro (fun _ => ?_) (fun _ => ?_) <;> try simp -dsimp -implicitDefEqProofs only [go_sem, ↓reduceIte, Nat.reduceEqDiff, Nat.reduceLT, Nat.reduceAdd, Nat.reduceMul, Nat.reduceLeDiff, Nat.le_refl, Int.natCast_zero, Int.toNat_natCast, Int.reduceToNat, *])
      | (with_reducible refine And.intro ?_ ?_)
      | (refine sCallX_one (c_eqItem _ _) ?_; try simp -dsimp -implicitDefEqProofs only [go_sem, ↓reduceIte, Nat.reduceEqDiff, Nat.reduceLT, Nat.reduceAdd, Nat.reduceMul, Nat.reduceLeDiff, Nat.le_refl, Int.natCast_zero, Int.toNat_natCast, Int.reduceToNat, *])
    all_goals first
      | omega
      | (refine ⟨?_, ?_⟩ <;> omega)
      | rfl
      | (simp; done)
      | (rw [no]; clear no yes; simp_all; done)
      | (refine yes ?_; clear no yes; simp_all; done)
  · simp -dsimp -implicitDefEqProofs only [pick_nil, pick_cons, look_nil, look_cons, dropB_nil, dropB_cons, inD_nil, inD_cons, inE_nil, inE_cons, or_t_l, or_f_l, Nat.reduceBEq, Nat.reduceDiv, Nat.reduceAdd, beq_self_eq_true, Bool.false_eq_true, Bool.or_false, ↓reduceIte, Nat.reduceEqDiff, List.cons_append, List.nil_append]
    simp -dsimp -implicitDefEqProofs only [go_sem, ↓reduceIte, Nat.reduceEqDiff, Nat.reduceLT, Nat.reduceAdd, Nat.reduceMul, Nat.reduceLeDiff, Nat.le_refl, Int.natCast_zero, Int.toNat_natCast, Int.reduceToNat, nlt_len]
    have h3 : xs = ys := by rw [← List.take_length (l := xs), hI, h1, List.take_length]
    simp [h3]
def markLItemS (k : Int) (n : Nat) : List ItM := (List.range n).map fun i : Nat => ItM.mk (Int.tmod (k + 3 * (i : Int)) 3 == 0) (k + 3 * (i : Int) + 1) (k + 3 * (i : Int) + 2)
theorem markLItemS_len (k : Int) (n : Nat) : (markLItemS k n).length = n := by simp [markLItemS]
theorem take_markLItemS {β : Type} (f : ItM → β) (k : Int) (n : Nat) : ((markLItemS k n).map f).take n = (markLItemS k n).map f := List.take_of_length_le (by simp [markLItemS])
attribute [go_sem] markLItemS_len take_markLItemS
theorem c_markItemS (xs : List ItM) (k : Int) (v : Nat) (dp : Bool) (hk : 0 ≤ k ∧ k ≤ 1000000000000) (h : xs.length ≤ 1000000000000) :
    FnM Tryz.prog 20 [.row v ⟨3, true⟩ dp (xs.map eIt)] [.ref 1000000000 v 0 xs.length, eI k] (fun x io => x = eI (k + 3 * xs.length) ∧ io = [.row v ⟨3, true⟩ dp ((markLItemS k xs.length).map eIt)]) := by
  refine FnM.of_vcN 36 [.tmp 4] Tryz.func20 rfl rfl rfl rfl rfl (of_decide_eq_true rfl) ?_
  simp -dsimp -implicitDefEqProofs only [go_sem, ↓reduceIte, Nat.reduceEqDiff, Nat.reduceLT, Nat.reduceAdd, Nat.reduceMul, Nat.reduceLeDiff, Nat.le_refl, Int.natCast_zero, Int.toNat_natCast, Int.reduceToNat]
  refine Later.up [0] [8] [1000000000] xs.length (fun _ => True) (fun i => [(5, eI i), (1, eI (k + 3 * i))]) (fun i => [(1000000000, .row v ⟨3, true⟩ dp (mk1 (fun i : Nat => eIt (ItM.mk (Int.tmod (k + 3 * (i : Int)) 3 == 0) (k + 3 * (i : Int) + 1) (k + 3 * (i : Int) + 2))) (xs.map eIt) i))]) trivial ?_ rfl (fun i hi _ => ?_) (fun _ => ?_)
  · simp -dsimp -implicitDefEqProofs only [go_sem, ↓reduceIte, Nat.reduceEqDiff, Nat.reduceLT, Nat.reduceAdd, Nat.reduceMul, Nat.reduceLeDiff, Nat.le_refl, Int.natCast_zero, Int.toNat_natCast, Int.reduceToNat, mk1_zero, Int.mul_zero, Int.add_zero]
  · simp -dsimp -implicitDefEqProofs only [pick_nil, pick_cons, look_nil, look_cons, dropB_nil, dropB_cons, inD_nil, inD_cons, inE_nil, inE_cons, or_t_l, or_f_l, Nat.reduceBEq, Nat.reduceDiv, Nat.reduceAdd, beq_self_eq_true, Bool.false_eq_true, Bool.or_false, ↓reduceIte, Nat.reduceEqDiff, List.cons_append, List.nil_append]
    have g0 := mk1_get (fun i : Nat => eIt (ItM.mk (Int.tmod (k + 3 * (i : Int)) 3 == 0) (k + 3 * (i : Int) + 1) (k + 3 * (i : Int) + 2))) (xs.map eIt) i (by simpa using hi)
    have g1 := mk1_set (fun i : Nat => eIt (ItM.mk (Int.tmod (k + 3 * (i : Int)) 3 == 0) (k + 3 * (i : Int) + 1) (k + 3 * (i : Int) + 2))) (xs.map eIt) i (by simpa using hi)
    have g2 := fun x => mk1_set2 (fun i : Nat => eIt (ItM.mk (Int.tmod (k + 3 * (i : Int)) 3 == 0) (k + 3 * (i : Int) + 1) (k + 3 * (i : Int) + 2))) (xs.map eIt) i x (by simpa using hi)
    rw [List.getElem_map] at g0
    simp -dsimp -implicitDefEqProofs only [go_sem, ↓reduceIte, Nat.reduceEqDiff, Nat.reduceLT, Nat.reduceAdd, Nat.reduceMul, Nat.reduceLeDiff, Nat.le_refl, Int.natCast_zero, Int.toNat_natCast, Int.reduceToNat, lt_len hi, g0, g2, List.set_set, mk1_len, List.length_set]
    repeat' (with_reducible refine And.intro ?_ ?_)
    all_goals first
      | omega
      | (refine ⟨?_, ?_⟩ <;> omega)
      | (simp; done)
      | (simp; omega)
      | (rw [← g1]; congr 1; simp <;> omega)
  · simp -dsimp -implicitDefEqProofs only [pick_nil, pick_cons, look_nil, look_cons, dropB_nil, dropB_cons, inD_nil, inD_cons, inE_nil, inE_cons, or_t_l, or_f_l, Nat.reduceBEq, Nat.reduceDiv, Nat.reduceAdd, beq_self_eq_true, Bool.false_eq_true, Bool.or_false, ↓reduceIte, Nat.reduceEqDiff, List.cons_append, List.nil_append]
    simp -dsimp -implicitDefEqProofs only [go_sem, ↓reduceIte, Nat.reduceEqDiff, Nat.reduceLT, Nat.reduceAdd, Nat.reduceMul, Nat.reduceLeDiff, Nat.le_refl, Int.natCast_zero, Int.toNat_natCast, Int.reduceToNat, nlt_len, mk1_all _ _ _ (show (xs.map eIt).length ≤ xs.length by simp)]
    repeat' (with_reducible refine And.intro ?_ ?_)
    all_goals first
      | (simp; done)
      | (simp [markLItemS, List.map_map, Function.comp_def]; done)
end Go.Vc


/-
  Contracts of the law on what an order needs.
-/
set_option linter.unusedVariables false
set_option linter.unusedSimpArgs false
set_option linter.unnecessarySimpa false
namespace Go.Vc
open Go.Proofs
set_option maxRecDepth 100000
set_option maxHeartbeats 4000000
theorem stockR_form {m : MkM} {t cuts : List (List Int)} {os : List ItM} : ∃ (a b d : List Int) (c : Int), stockR m t cuts os = .tup [eIs a, eIs b, eIs d, eI c] ∧ a.length ≤ 8 ∧ b.length ≤ 8 ∧ d.length ≤ 8 := by
  unfold stockR
  split
  · rename_i h
    have hd : isDes m t cuts = true ∧ isOrd t os = true := by
      unfold stockCode at h
      split at h
      · rename_i h1
        split at h
        · rename_i h2; exact ⟨h1, h2⟩
        · cases h
      · cases h
    obtain ⟨hs, hc⟩ := isDes_out hd.1
    have hn := isMk_num (isSy_mk hs)
    obtain ⟨⟨l1, _⟩, ⟨l2, _⟩, ⟨l3, _⟩⟩ := osTo_ok hs hc hd.2 os.length (Nat.le_refl _)
    exact ⟨_, _, _, _, rfl, by omega, by omega, by omega⟩
  · exact ⟨_, _, _, _, rfl, by simp, by simp, by simp⟩
theorem c_FnExactOrderStock (m : MkM) (l cuts : List (List Int)) (os : List ItM) (h : l.length ≤ 9223372036854775807) (h2 : ∀ x ∈ l, x.length ≤ 9223372036854775807) (hc : cuts.length ≤ 9223372036854775807) (hc2 : ∀ x ∈ cuts, x.length ≤ 9223372036854775807) (h5 : os.length ≤ 9223372036854775807) :
    Fn Tryz.prog 3 [eSy m l, eIss cuts, eIts os] true (· = eB true) := by
  refine Fn.of_vcN 216 [.tmp 6] Tryz.func3 rfl rfl rfl rfl rfl (of_decide_eq_true rfl) ?_
  simp -dsimp -implicitDefEqProofs only [go_sem, ↓reduceIte, Nat.reduceEqDiff, Nat.reduceLT, Nat.reduceAdd, Nat.reduceMul, Nat.reduceLeDiff, Nat.le_refl, Int.natCast_zero, Int.toNat_natCast, Int.reduceToNat]
  refine sCallT_one (c_szSystem m l _ h h2 (by decide)) ?_
  by_cases hs : (1048576 : Int) < l.length + tot l
  · rw [if_pos hs]
    simp -dsimp -implicitDefEqProofs only [go_sem, ↓reduceIte, Nat.reduceEqDiff, Nat.reduceLT, Nat.reduceAdd, Nat.reduceMul, Nat.reduceLeDiff, Nat.le_refl, Int.natCast_zero, Int.toNat_natCast, Int.reduceToNat]
    repeat' (refine Br.intro (fun _ => ?_) (fun _ => ?_) <;> try simp -dsimp -implicitDefEqProofs only [go_sem, ↓reduceIte, Nat.reduceEqDiff, Nat.reduceLT, Nat.reduceAdd, Nat.reduceMul, Nat.reduceLeDiff, Nat.le_refl, Int.natCast_zero, Int.toNat_natCast, Int.reduceToNat, *])
    all_goals simp_all
  rw [if_neg hs]
  simp -dsimp -implicitDefEqProofs only [go_sem, ↓reduceIte, Nat.reduceEqDiff, Nat.reduceLT, Nat.reduceAdd, Nat.reduceMul, Nat.reduceLeDiff, Nat.le_refl, Int.natCast_zero, Int.toNat_natCast, Int.reduceToNat]
  repeat' (refine Br.intro (fun _ => ?_) (fun _ => ?_) <;> try simp -dsimp -implicitDefEqProofs only [go_sem, ↓reduceIte, Nat.reduceEqDiff, Nat.reduceLT, Nat.reduceAdd, Nat.reduceMul, Nat.reduceLeDiff, Nat.le_refl, Int.natCast_zero, Int.toNat_natCast, Int.reduceToNat, *])
  have hL : l.length ≤ 1048576 := by omega
  have hT : (l.map List.length).sum ≤ 1048576 := by rw [← tot_eq]; omega
  have h3 : ∀ x ∈ l, x.length ≤ 1048576 := fun x hx => by have := len_tot l x hx; omega
  have h4 : ∀ x ∈ l, x.length ≤ 9223372036854775807 := h2
  refine sCallT_one (c_szInt64SS cuts _ hc hc2 (by omega)) ?_
  by_cases hs1 : (1048576 : Int) - (l.length + tot l) < cuts.length + tot cuts
  · rw [if_pos hs1]
    simp -dsimp -implicitDefEqProofs only [go_sem, ↓reduceIte, Nat.reduceEqDiff, Nat.reduceLT, Nat.reduceAdd, Nat.reduceMul, Nat.reduceLeDiff, Nat.le_refl, Int.natCast_zero, Int.toNat_natCast, Int.reduceToNat]
    repeat' (refine Br.intro (fun _ => ?_) (fun _ => ?_) <;> try simp -dsimp -implicitDefEqProofs only [go_sem, ↓reduceIte, Nat.reduceEqDiff, Nat.reduceLT, Nat.reduceAdd, Nat.reduceMul, Nat.reduceLeDiff, Nat.le_refl, Int.natCast_zero, Int.toNat_natCast, Int.reduceToNat, *])
    all_goals simp_all
  rw [if_neg hs1]
  simp -dsimp -implicitDefEqProofs only [go_sem, ↓reduceIte, Nat.reduceEqDiff, Nat.reduceLT, Nat.reduceAdd, Nat.reduceMul, Nat.reduceLeDiff, Nat.le_refl, Int.natCast_zero, Int.toNat_natCast, Int.reduceToNat]
  repeat' (refine Br.intro (fun _ => ?_) (fun _ => ?_) <;> try simp -dsimp -implicitDefEqProofs only [go_sem, ↓reduceIte, Nat.reduceEqDiff, Nat.reduceLT, Nat.reduceAdd, Nat.reduceMul, Nat.reduceLeDiff, Nat.le_refl, Int.natCast_zero, Int.toNat_natCast, Int.reduceToNat, *])
  have hL' : cuts.length ≤ 1048576 := by omega
  have hT' : (cuts.map List.length).sum ≤ 1048576 := by rw [← tot_eq]; omega
  have h3' : ∀ x ∈ cuts, x.length ≤ 1048576 := fun x hx => by have := len_tot cuts x hx; omega
  refine sCallT_one (c_szItemS os _ h5 (by omega)) ?_
  by_cases hs2 : (1048576 : Int) - (l.length + tot l) - (cuts.length + tot cuts) < os.length
  · rw [if_pos hs2]
    simp -dsimp -implicitDefEqProofs only [go_sem, ↓reduceIte, Nat.reduceEqDiff, Nat.reduceLT, Nat.reduceAdd, Nat.reduceMul, Nat.reduceLeDiff, Nat.le_refl, Int.natCast_zero, Int.toNat_natCast, Int.reduceToNat]
    repeat' (refine Br.intro (fun _ => ?_) (fun _ => ?_) <;> try simp -dsimp -implicitDefEqProofs only [go_sem, ↓reduceIte, Nat.reduceEqDiff, Nat.reduceLT, Nat.reduceAdd, Nat.reduceMul, Nat.reduceLeDiff, Nat.le_refl, Int.natCast_zero, Int.toNat_natCast, Int.reduceToNat, *])
    all_goals simp_all
  rw [if_neg hs2]
  simp -dsimp -implicitDefEqProofs only [go_sem, ↓reduceIte, Nat.reduceEqDiff, Nat.reduceLT, Nat.reduceAdd, Nat.reduceMul, Nat.reduceLeDiff, Nat.le_refl, Int.natCast_zero, Int.toNat_natCast, Int.reduceToNat]
  repeat' (refine Br.intro (fun _ => ?_) (fun _ => ?_) <;> try simp -dsimp -implicitDefEqProofs only [go_sem, ↓reduceIte, Nat.reduceEqDiff, Nat.reduceLT, Nat.reduceAdd, Nat.reduceMul, Nat.reduceLeDiff, Nat.le_refl, Int.natCast_zero, Int.toNat_natCast, Int.reduceToNat, *])
  have hO : os.length ≤ 1048576 := by omega
  clear hs2 hs1 hs h2
  have cs := c_sOrderStock m l cuts os hL h3 hL' h3' hO
  have ci := c_iOrderStock m l cuts os hL h3 hL' h3' hO
  obtain ⟨a, b, d, c, hr, la, lb, ld⟩ := stockR_form (m := m) (t := l) (cuts := cuts) (os := os)
  rw [hr] at cs ci
  clear hr
  generalize hk1 : (l.map List.length).sum = s1 at *
  generalize hk2 : (cuts.map List.length).sum = s2 at *
  have m1 := fun v => c_markSystem m l 1 v (by omega) (by omega) (by omega)
  have m2 := fun v => c_markInt64SS cuts (1 + (s1 : Int)) v (by omega) (by omega) (by omega)
  have m3 := fun v => c_markItemS os (1 + (s1 : Int) + (s2 : Int)) v true (by omega) (by omega)
  rw [hk1] at m1
  rw [hk2] at m2
  repeat' first
    | (refine Br.intro (fun _ => ?_) (fun _ => ?_) <;> try simp -dsimp -implicitDefEqProofs only [go_sem, ↓reduceIte, Nat.reduceEqDiff, Nat.reduceLT, Nat.reduceAdd, Nat.reduceMul, Nat.reduceLeDiff, Nat.le_refl, Int.natCast_zero, Int.toNat_natCast, Int.reduceToNat, *])
    | (with_reducible refine And.intro ?_ ?_)
    | (refine sCallT_one (c_toSystem m l hL h3) ?_; try simp -dsimp -implicitDefEqProofs only [go_sem, ↓reduceIte, Nat.reduceEqDiff, Nat.reduceLT, Nat.reduceAdd, Nat.reduceMul, Nat.reduceLeDiff, Nat.le_refl, Int.natCast_zero, Int.toNat_natCast, Int.reduceToNat, *])
    | (refine sCallT_one (c_eqSystem m m l l h h4) ?_; try simp -dsimp -implicitDefEqProofs only [go_sem, ↓reduceIte, Nat.reduceEqDiff, Nat.reduceLT, Nat.reduceAdd, Nat.reduceMul, Nat.reduceLeDiff, Nat.le_refl, Int.natCast_zero, Int.toNat_natCast, Int.reduceToNat, *])
    | (refine sCallT_one (c_toInt64SS cuts hL' h3') ?_; try simp -dsimp -implicitDefEqProofs only [go_sem, ↓reduceIte, Nat.reduceEqDiff, Nat.reduceLT, Nat.reduceAdd, Nat.reduceMul, Nat.reduceLeDiff, Nat.le_refl, Int.natCast_zero, Int.toNat_natCast, Int.reduceToNat, *])
    | (refine sCallT_one (c_eqInt64SS cuts cuts hc hc2) ?_; try simp -dsimp -implicitDefEqProofs only [go_sem, ↓reduceIte, Nat.reduceEqDiff, Nat.reduceLT, Nat.reduceAdd, Nat.reduceMul, Nat.reduceLeDiff, Nat.le_refl, Int.natCast_zero, Int.toNat_natCast, Int.reduceToNat, *])
    | (refine sCallT_one (c_toItemS os hO) ?_; try simp -dsimp -implicitDefEqProofs only [go_sem, ↓reduceIte, Nat.reduceEqDiff, Nat.reduceLT, Nat.reduceAdd, Nat.reduceMul, Nat.reduceLeDiff, Nat.le_refl, Int.natCast_zero, Int.toNat_natCast, Int.reduceToNat, *])
    | (refine sCallT_one (c_eqItemS os os (by omega)) ?_; try simp -dsimp -implicitDefEqProofs only [go_sem, ↓reduceIte, Nat.reduceEqDiff, Nat.reduceLT, Nat.reduceAdd, Nat.reduceMul, Nat.reduceLeDiff, Nat.le_refl, Int.natCast_zero, Int.toNat_natCast, Int.reduceToNat, *])
    | (refine sCallT_one (cs) ?_; try simp -dsimp -implicitDefEqProofs only [go_sem, ↓reduceIte, Nat.reduceEqDiff, Nat.reduceLT, Nat.reduceAdd, Nat.reduceMul, Nat.reduceLeDiff, Nat.le_refl, Int.natCast_zero, Int.toNat_natCast, Int.reduceToNat, *])
    | (refine sCallT_one (ci) ?_; try simp -dsimp -implicitDefEqProofs only [go_sem, ↓reduceIte, Nat.reduceEqDiff, Nat.reduceLT, Nat.reduceAdd, Nat.reduceMul, Nat.reduceLeDiff, Nat.le_refl, Int.natCast_zero, Int.toNat_natCast, Int.reduceToNat, *])
    | (refine sCallT_one (c_eqInt64S a a (by omega)) ?_; try simp -dsimp -implicitDefEqProofs only [go_sem, ↓reduceIte, Nat.reduceEqDiff, Nat.reduceLT, Nat.reduceAdd, Nat.reduceMul, Nat.reduceLeDiff, Nat.le_refl, Int.natCast_zero, Int.toNat_natCast, Int.reduceToNat, *])
    | (refine sCallT_one (c_eqInt64S b b (by omega)) ?_; try simp -dsimp -implicitDefEqProofs only [go_sem, ↓reduceIte, Nat.reduceEqDiff, Nat.reduceLT, Nat.reduceAdd, Nat.reduceMul, Nat.reduceLeDiff, Nat.le_refl, Int.natCast_zero, Int.toNat_natCast, Int.reduceToNat, *])
    | (refine sCallT_one (c_eqInt64S d d (by omega)) ?_; try simp -dsimp -implicitDefEqProofs only [go_sem, ↓reduceIte, Nat.reduceEqDiff, Nat.reduceLT, Nat.reduceAdd, Nat.reduceMul, Nat.reduceLeDiff, Nat.le_refl, Int.natCast_zero, Int.toNat_natCast, Int.reduceToNat, *])
    | (refine sCallT_io [55005] ?_; simp -dsimp -implicitDefEqProofs only [go_sem, ↓reduceIte, Nat.reduceEqDiff, Nat.reduceLT, Nat.reduceAdd, Nat.reduceMul, Nat.reduceLeDiff, Nat.le_refl, Int.natCast_zero, Int.toNat_natCast, Int.reduceToNat]; refine sCallM_one (m1 0) ?_; try simp -dsimp -implicitDefEqProofs only [go_sem, ↓reduceIte, Nat.reduceEqDiff, Nat.reduceLT, Nat.reduceAdd, Nat.reduceMul, Nat.reduceLeDiff, Nat.le_refl, Int.natCast_zero, Int.toNat_natCast, Int.reduceToNat, *])
    | (refine sCallT_io [57000] ?_; simp -dsimp -implicitDefEqProofs only [go_sem, ↓reduceIte, Nat.reduceEqDiff, Nat.reduceLT, Nat.reduceAdd, Nat.reduceMul, Nat.reduceLeDiff, Nat.le_refl, Int.natCast_zero, Int.toNat_natCast, Int.reduceToNat]; refine sCallM_one (m2 0) ?_; try simp -dsimp -implicitDefEqProofs only [go_sem, ↓reduceIte, Nat.reduceEqDiff, Nat.reduceLT, Nat.reduceAdd, Nat.reduceMul, Nat.reduceLeDiff, Nat.le_refl, Int.natCast_zero, Int.toNat_natCast, Int.reduceToNat, *])
    | (refine sCallT_io [59000] ?_; simp -dsimp -implicitDefEqProofs only [go_sem, ↓reduceIte, Nat.reduceEqDiff, Nat.reduceLT, Nat.reduceAdd, Nat.reduceMul, Nat.reduceLeDiff, Nat.le_refl, Int.natCast_zero, Int.toNat_natCast, Int.reduceToNat]; refine sCallM_one (m3 0) ?_; try simp -dsimp -implicitDefEqProofs only [go_sem, ↓reduceIte, Nat.reduceEqDiff, Nat.reduceLT, Nat.reduceAdd, Nat.reduceMul, Nat.reduceLeDiff, Nat.le_refl, Int.natCast_zero, Int.toNat_natCast, Int.reduceToNat, *])
    | (refine sCallT_io [64000] ?_; simp -dsimp -implicitDefEqProofs only [go_sem, ↓reduceIte, Nat.reduceEqDiff, Nat.reduceLT, Nat.reduceAdd, Nat.reduceMul, Nat.reduceLeDiff, Nat.le_refl, Int.natCast_zero, Int.toNat_natCast, Int.reduceToNat]; refine sCallM_one (c_markInt64S a 1 0 true (by omega) (by omega)) ?_; try simp -dsimp -implicitDefEqProofs only [go_sem, ↓reduceIte, Nat.reduceEqDiff, Nat.reduceLT, Nat.reduceAdd, Nat.reduceMul, Nat.reduceLeDiff, Nat.le_refl, Int.natCast_zero, Int.toNat_natCast, Int.reduceToNat, *])
    | (refine sCallT_io [64016] ?_; simp -dsimp -implicitDefEqProofs only [go_sem, ↓reduceIte, Nat.reduceEqDiff, Nat.reduceLT, Nat.reduceAdd, Nat.reduceMul, Nat.reduceLeDiff, Nat.le_refl, Int.natCast_zero, Int.toNat_natCast, Int.reduceToNat]; refine sCallM_one (c_markInt64S b (1 + 1 * (a.length : Int)) 0 true (by omega) (by omega)) ?_; try simp -dsimp -implicitDefEqProofs only [go_sem, ↓reduceIte, Nat.reduceEqDiff, Nat.reduceLT, Nat.reduceAdd, Nat.reduceMul, Nat.reduceLeDiff, Nat.le_refl, Int.natCast_zero, Int.toNat_natCast, Int.reduceToNat, *])
    | (refine sCallT_io [64032] ?_; simp -dsimp -implicitDefEqProofs only [go_sem, ↓reduceIte, Nat.reduceEqDiff, Nat.reduceLT, Nat.reduceAdd, Nat.reduceMul, Nat.reduceLeDiff, Nat.le_refl, Int.natCast_zero, Int.toNat_natCast, Int.reduceToNat]; refine sCallM_one (c_markInt64S d (1 + 1 * (a.length : Int) + 1 * (b.length : Int)) 0 true (by omega) (by omega)) ?_; try simp -dsimp -implicitDefEqProofs only [go_sem, ↓reduceIte, Nat.reduceEqDiff, Nat.reduceLT, Nat.reduceAdd, Nat.reduceMul, Nat.reduceLeDiff, Nat.le_refl, Int.natCast_zero, Int.toNat_natCast, Int.reduceToNat, *])
    | (refine sCallT_one (c_heldInt64S a.length 1 (by omega) (by omega)) ?_; try simp -dsimp -implicitDefEqProofs only [go_sem, ↓reduceIte, Nat.reduceEqDiff, Nat.reduceLT, Nat.reduceAdd, Nat.reduceMul, Nat.reduceLeDiff, Nat.le_refl, Int.natCast_zero, Int.toNat_natCast, Int.reduceToNat, *])
    | (refine sCallT_one (c_heldInt64S b.length (1 + 1 * (a.length : Int)) (by omega) (by omega)) ?_; try simp -dsimp -implicitDefEqProofs only [go_sem, ↓reduceIte, Nat.reduceEqDiff, Nat.reduceLT, Nat.reduceAdd, Nat.reduceMul, Nat.reduceLeDiff, Nat.le_refl, Int.natCast_zero, Int.toNat_natCast, Int.reduceToNat, *])
    | (refine sCallT_one (c_heldInt64S d.length (1 + 1 * (a.length : Int) + 1 * (b.length : Int)) (by omega) (by omega)) ?_; try simp -dsimp -implicitDefEqProofs only [go_sem, ↓reduceIte, Nat.reduceEqDiff, Nat.reduceLT, Nat.reduceAdd, Nat.reduceMul, Nat.reduceLeDiff, Nat.le_refl, Int.natCast_zero, Int.toNat_natCast, Int.reduceToNat, *])
    | (refine sCallX_one (c_toSystem m l hL h3) ?_; try simp -dsimp -implicitDefEqProofs only [go_sem, ↓reduceIte, Nat.reduceEqDiff, Nat.reduceLT, Nat.reduceAdd, Nat.reduceMul, Nat.reduceLeDiff, Nat.le_refl, Int.natCast_zero, Int.toNat_natCast, Int.reduceToNat, *])
    | (refine sCallX_one (c_eqSystem m m l l h h4) ?_; try simp -dsimp -implicitDefEqProofs only [go_sem, ↓reduceIte, Nat.reduceEqDiff, Nat.reduceLT, Nat.reduceAdd, Nat.reduceMul, Nat.reduceLeDiff, Nat.le_refl, Int.natCast_zero, Int.toNat_natCast, Int.reduceToNat, *])
    | (refine Later.draw mixed rfl ?_; try simp -dsimp -implicitDefEqProofs only [go_sem, ↓reduceIte, Nat.reduceEqDiff, Nat.reduceLT, Nat.reduceAdd, Nat.reduceMul, Nat.reduceLeDiff, Nat.le_refl, Int.natCast_zero, Int.toNat_natCast, Int.reduceToNat, *])
  all_goals first
    | omega | (refine ⟨?_, ?_⟩ <;> omega) | (simp; done) | (simp; omega)
    | rfl
    | (simp_all; done)
    | (simp_all; omega)
    | trace_state
end Go.Vc


