/-
  Contracts: journals, as the reference reads them.
-/
import Derived.Test.YtnmaeefcjdbpcaaDoorJourS
import Derived.Test.YtnmaeefcjdbpcaaDoorSplit
set_option linter.unusedVariables false
set_option linter.unusedSimpArgs false
set_option linter.unnecessarySimpa false
namespace Go.Vc
open Go.Proofs Go.Lib
set_option maxRecDepth 100000
theorem spl_get0 (c : UInt8) (l : List UInt8) : (spl c l)[0]? = some ((spl c l).headD []) := by
  have := spl_ne c l
  cases h : spl c l with
  | nil => exact absurd h this
  | cons a r => rfl
theorem spl_pos (c : UInt8) (l : List UInt8) : 0 < (spl c l).length := List.length_pos_iff.2 (spl_ne c l)
abbrev vN (ws : List (List UInt8)) (j : Nat) : Int × Bool := valP (j + 1) (ws.getD (j + 1) [])
abbrev vNs (ws : List (List UInt8)) (i : Nat) : List Int := (List.range i).map fun j => (vN ws j).1
theorem vNs_succ (ws : List (List UInt8)) (i : Nat) : vNs ws (i + 1) = vNs ws i ++ [(vN ws i).1] := by simp [vNs, List.range_succ]
theorem eq_m1 (w : List UInt8) : (decide (w = [45, 49])) = true ↔ w = [45, 49] := by simp
set_option maxHeartbeats 4000000 in
theorem c_l31Line (line : List UInt8) (h : line.length ≤ 1048576) : Fn Tryd.prog 102 [eS line] true (· = .tup [eEv (lineE line).1, eB (lineE line).2]) := by
  refine Fn.of_vcN 64 [.cell 2 45, .tmp 3] Tryd.func102 rfl rfl rfl rfl rfl (of_decide_eq_true rfl) ?_
  have g0 := spl_get0 32 line
  have p0 := spl_pos 32 line
  have hd : (headOf line).length ≤ line.length := part_len
  have hdef : (spl 32 line).headD [] = headOf line := rfl
  rw [hdef] at g0
  clear hdef
  have hpl := spl_part_len 44 (headOf line)
  have hs2 := c_l01Split (headOf line) 44 (by omega)
  unfold lineE
  generalize headOf line = hdl at *
  generalize spl 44 hdl = ws at *
  simp -dsimp -implicitDefEqProofs only [go_sem, ↓reduceIte, Nat.reduceEqDiff, Nat.reduceLT, Nat.reduceAdd, Nat.reduceMul, Nat.reduceLeDiff, Nat.le_refl, Int.natCast_zero, Int.toNat_natCast, Int.reduceToNat]
  refine sCallT_one (c_l01Split line 32 h) ?_
  simp -dsimp -implicitDefEqProofs only [go_sem, ↓reduceIte, Nat.reduceEqDiff, Nat.reduceLT, Nat.reduceAdd, Nat.reduceMul, Nat.reduceLeDiff, Nat.le_refl, Int.natCast_zero, Int.toNat_natCast, Int.reduceToNat, g0]
  repeat' (with_reducible refine And.intro ?_ ?_)
  all_goals try (first | omega | (refine ⟨?_, ?_⟩ <;> omega))
  refine sCallT_one hs2 ?_
  rcases h5 : ((ws.length : Int) != 5) with _ | _
  · have e5 : ws.length = 5 := by simp at h5; omega
    simp -dsimp -implicitDefEqProofs only [go_sem, ↓reduceIte, Nat.reduceEqDiff, Nat.reduceLT, Nat.reduceAdd, Nat.reduceMul, Nat.reduceLeDiff, Nat.le_refl, Int.natCast_zero, Int.toNat_natCast, Int.reduceToNat, h5]
    refine Later.lp [2, 4] [29, 46, 47] [19] (fun i : Nat => i ≤ 4 ∧ ∀ j, j < i → (vN ws j).2 = true) (fun i => [(5, .ref 19 0 0 i), (6, eI ((i : Int) + 1))]) (fun i => [(19, .row 0 ⟨1, false⟩ true ((vNs ws i).map eI))]) (fun i => 4 - i) 0 ⟨by omega, fun j hj => by omega⟩ ?_ rfl (fun i hI => ?_)
    · simp -dsimp -implicitDefEqProofs only [go_sem, ↓reduceIte, Nat.reduceEqDiff, Nat.reduceLT, Nat.reduceAdd, Nat.reduceMul, Nat.reduceLeDiff, Nat.le_refl, Int.natCast_zero, Int.toNat_natCast, Int.reduceToNat]
      simp [vNs]
    · obtain ⟨i1, i2⟩ := hI
      rcases hi : decide (((i : Int) + 1) < 5) with _ | _
      · have e4 : i = 4 := by have := of_decide_eq_false hi; omega
        subst e4
        have v0 := i2 0 (by omega)
        have v1 := i2 1 (by omega)
        have v2 := i2 2 (by omega)
        have v3 := i2 3 (by omega)
        rw [if_pos ⟨e5, v0, v1, v2, v3⟩]
        have hvs : (vNs ws 4).map eI = [eI (valP 1 (ws.getD 1 [])).1, eI (valP 2 (ws.getD 2 [])).1, eI (valP 3 (ws.getD 3 [])).1, eI (valP 4 (ws.getD 4 [])).1] := rfl
        rw [hvs]
        clear i2 v0 v1 v2 v3 hvs
        generalize (valP 1 (ws.getD 1 [])).1 = x1 at *
        generalize (valP 2 (ws.getD 2 [])).1 = x2 at *
        generalize (valP 3 (ws.getD 3 [])).1 = x3 at *
        generalize (valP 4 (ws.getD 4 [])).1 = x4 at *
        simp -dsimp -implicitDefEqProofs only [pick_nil, pick_cons, look_nil, look_cons, dropB_nil, dropB_cons, inD_nil, inD_cons, inE_nil, inE_cons, or_t_l, or_f_l, Nat.reduceBEq, Nat.reduceDiv, Nat.reduceAdd, beq_self_eq_true, Bool.false_eq_true, Bool.or_false, ↓reduceIte, Nat.reduceEqDiff, List.cons_append, List.nil_append]
        simp -dsimp -implicitDefEqProofs only [go_sem, ↓reduceIte, Nat.reduceEqDiff, Nat.reduceLT, Nat.reduceAdd, Nat.reduceMul, Nat.reduceLeDiff, Nat.le_refl, Int.natCast_zero, Int.toNat_natCast, Int.reduceToNat, hi]
        refine Later.draw mixed rfl ?_
        simp -dsimp -implicitDefEqProofs only [go_sem, ↓reduceIte, Nat.reduceEqDiff, Nat.reduceLT, Nat.reduceAdd, Nat.reduceMul, Nat.reduceLeDiff, Nat.le_refl, Int.natCast_zero, Int.toNat_natCast, Int.reduceToNat]
        repeat' (with_reducible refine And.intro ?_ ?_)
        all_goals try (first | omega | (refine ⟨?_, ?_⟩ <;> omega) | (exact rfl))
        refine Later.draw mixed rfl ?_
        simp -dsimp -implicitDefEqProofs only [go_sem, ↓reduceIte, Nat.reduceEqDiff, Nat.reduceLT, Nat.reduceAdd, Nat.reduceMul, Nat.reduceLeDiff, Nat.le_refl, Int.natCast_zero, Int.toNat_natCast, Int.reduceToNat]
        refine sCallX_one (c_l31Event ⟨x1, x2, x3, x4⟩) ?_
        simp -dsimp -implicitDefEqProofs only [go_sem, ↓reduceIte, Nat.reduceEqDiff, Nat.reduceLT, Nat.reduceAdd, Nat.reduceMul, Nat.reduceLeDiff, Nat.le_refl, Int.natCast_zero, Int.toNat_natCast, Int.reduceToNat]
        repeat' (with_reducible refine And.intro ?_ ?_)
        all_goals (first | omega | (refine ⟨?_, ?_⟩ <;> omega) | (exact rfl) | (simp; done) | trace_state)
      · have hlt : i + 1 < ws.length := by have := of_decide_eq_true hi; omega
        have ht : ((i : Int) + 1).toNat = i + 1 := by omega
        have gi : ws[i + 1]? = some (ws.getD (i + 1) []) := by rw [List.getD_eq_getElem?_getD, List.getElem?_eq_getElem hlt]; rfl
        have hwl := hpl (ws.getD (i + 1) []) (List.mem_of_getElem? gi)
        have hcv := c_l01Value (ws.getD (i + 1) []) (by omega)
        have hvn : vN ws i = (if i + 1 = 3 ∧ ws.getD (i + 1) [] = [45, 49] then (-1, true) else valD (ws.getD (i + 1) [])) := rfl
        have hfail : (vN ws i).2 = false → ¬ (ws.length = 5 ∧ (valP 1 (ws.getD 1 [])).2 = true ∧ (valP 2 (ws.getD 2 [])).2 = true ∧ (valP 3 (ws.getD 3 [])).2 = true ∧ (valP 4 (ws.getD 4 [])).2 = true) := by
          rintro q ⟨_, w1, w2, w3, w4⟩
          have : i = 0 ∨ i = 1 ∨ i = 2 ∨ i = 3 := by omega
          rcases this with rfl | rfl | rfl | rfl
          · rw [w1] at q; cases q
          · rw [w2] at q; cases q
          · rw [w3] at q; cases q
          · rw [w4] at q; cases q
        have hgo : (vN ws i).2 = true → ∀ j, j < i + 1 → (vN ws j).2 = true := by
          intro q j hj
          by_cases e : j = i
          · rw [e]; exact q
          · exact i2 j (by omega)
        have hvsu := vNs_succ ws i
        have hvl : (vNs ws i).length = i := by simp [vNs]
        clear i2
        generalize ws.getD (i + 1) [] = w at *
        rcases h3 : (((i : Int) + 1) == 3) with _ | _
        · have n3 : ¬ (i + 1 = 3) := by simp at h3; omega
          rw [if_neg (fun q => n3 q.1)] at hvn
          rw [hvn] at hfail hgo hvsu
          rcases hv : (valD w).2 with _ | _
          · rw [if_neg (hfail hv)]
            simp -dsimp -implicitDefEqProofs only [pick_nil, pick_cons, look_nil, look_cons, dropB_nil, dropB_cons, inD_nil, inD_cons, inE_nil, inE_cons, or_t_l, or_f_l, Nat.reduceBEq, Nat.reduceDiv, Nat.reduceAdd, beq_self_eq_true, Bool.false_eq_true, Bool.or_false, ↓reduceIte, Nat.reduceEqDiff, List.cons_append, List.nil_append]
            simp -dsimp -implicitDefEqProofs only [go_sem, ↓reduceIte, Nat.reduceEqDiff, Nat.reduceLT, Nat.reduceAdd, Nat.reduceMul, Nat.reduceLeDiff, Nat.le_refl, Int.natCast_zero, Int.toNat_natCast, Int.reduceToNat, hi, ht, gi]
            repeat' (with_reducible refine And.intro ?_ ?_)
            all_goals try (first | omega | (refine ⟨?_, ?_⟩ <;> omega))
            refine sCallT_one hcv ?_
            simp -dsimp -implicitDefEqProofs only [go_sem, ↓reduceIte, Nat.reduceEqDiff, Nat.reduceLT, Nat.reduceAdd, Nat.reduceMul, Nat.reduceLeDiff, Nat.le_refl, Int.natCast_zero, Int.toNat_natCast, Int.reduceToNat, h3, hv]
            repeat' (with_reducible refine And.intro ?_ ?_)
            all_goals (first | omega | (refine ⟨?_, ?_⟩ <;> omega) | (exact rfl) | (simp; done) | trace_state)
          · clear hfail
            generalize vNs ws i = ns at *
            simp -dsimp -implicitDefEqProofs only [pick_nil, pick_cons, look_nil, look_cons, dropB_nil, dropB_cons, inD_nil, inD_cons, inE_nil, inE_cons, or_t_l, or_f_l, Nat.reduceBEq, Nat.reduceDiv, Nat.reduceAdd, beq_self_eq_true, Bool.false_eq_true, Bool.or_false, ↓reduceIte, Nat.reduceEqDiff, List.cons_append, List.nil_append]
            simp -dsimp -implicitDefEqProofs only [go_sem, ↓reduceIte, Nat.reduceEqDiff, Nat.reduceLT, Nat.reduceAdd, Nat.reduceMul, Nat.reduceLeDiff, Nat.le_refl, Int.natCast_zero, Int.toNat_natCast, Int.reduceToNat, hi, ht, gi]
            repeat' (with_reducible refine And.intro ?_ ?_)
            all_goals try (first | omega | (refine ⟨?_, ?_⟩ <;> omega))
            refine sCallT_one hcv ?_
            simp -dsimp -implicitDefEqProofs only [go_sem, ↓reduceIte, Nat.reduceEqDiff, Nat.reduceLT, Nat.reduceAdd, Nat.reduceMul, Nat.reduceLeDiff, Nat.le_refl, Int.natCast_zero, Int.toNat_natCast, Int.reduceToNat, h3, hv]
            repeat' (with_reducible refine And.intro ?_ ?_)
            all_goals try (first | omega | (refine ⟨?_, ?_⟩ <;> omega))
            refine ⟨i + 1, ⟨by have := of_decide_eq_true hi; omega, hgo hv⟩, by have := of_decide_eq_true hi; omega, ?_⟩
            rw [hvsu]
            simp -dsimp -implicitDefEqProofs only [go_sem, ↓reduceIte, Nat.reduceEqDiff, Nat.reduceLT, Nat.reduceAdd, Nat.reduceMul, Nat.reduceLeDiff, Nat.le_refl, Int.natCast_zero, Int.toNat_natCast, Int.reduceToNat]
            repeat' (with_reducible refine And.intro ?_ ?_)
            all_goals first | omega | (simp; done) | (simp; omega) | (rw [List.take_of_length_le (by simp; omega)]; simp; done) | trace_state
        · have y3 : i + 1 = 3 := by have := beq_iff_eq.1 h3; omega
          have hm := eq_m1 w
          rcases hm1 : decide (w = [45, 49]) with _ | _
          · have nm : ¬ (w = [45, 49]) := by simpa using hm1
            rw [if_neg (fun q => nm q.2)] at hvn
            rw [hvn] at hfail hgo hvsu
            rcases hv : (valD w).2 with _ | _
            · rw [if_neg (hfail hv)]
              simp -dsimp -implicitDefEqProofs only [pick_nil, pick_cons, look_nil, look_cons, dropB_nil, dropB_cons, inD_nil, inD_cons, inE_nil, inE_cons, or_t_l, or_f_l, Nat.reduceBEq, Nat.reduceDiv, Nat.reduceAdd, beq_self_eq_true, Bool.false_eq_true, Bool.or_false, ↓reduceIte, Nat.reduceEqDiff, List.cons_append, List.nil_append]
              simp -dsimp -implicitDefEqProofs only [go_sem, ↓reduceIte, Nat.reduceEqDiff, Nat.reduceLT, Nat.reduceAdd, Nat.reduceMul, Nat.reduceLeDiff, Nat.le_refl, Int.natCast_zero, Int.toNat_natCast, Int.reduceToNat, hi, ht, gi]
              repeat' (with_reducible refine And.intro ?_ ?_)
              all_goals try (first | omega | (refine ⟨?_, ?_⟩ <;> omega))
              refine sCallT_one hcv ?_
              simp -dsimp -implicitDefEqProofs only [go_sem, ↓reduceIte, Nat.reduceEqDiff, Nat.reduceLT, Nat.reduceAdd, Nat.reduceMul, Nat.reduceLeDiff, Nat.le_refl, Int.natCast_zero, Int.toNat_natCast, Int.reduceToNat, h3, hv, ht, gi]
              repeat' (with_reducible refine And.intro ?_ ?_)
              all_goals try (first | omega | (refine ⟨?_, ?_⟩ <;> omega))
              simp -dsimp -implicitDefEqProofs only [go_sem, ↓reduceIte, Nat.reduceEqDiff, Nat.reduceLT, Nat.reduceAdd, Nat.reduceMul, Nat.reduceLeDiff, Nat.le_refl, Int.natCast_zero, Int.toNat_natCast, Int.reduceToNat, hm1, hv]
              repeat' (with_reducible refine And.intro ?_ ?_)
              all_goals (first | omega | (refine ⟨?_, ?_⟩ <;> omega) | (exact rfl) | (simp; done) | trace_state)
            · clear hfail
              generalize vNs ws i = ns at *
              simp -dsimp -implicitDefEqProofs only [pick_nil, pick_cons, look_nil, look_cons, dropB_nil, dropB_cons, inD_nil, inD_cons, inE_nil, inE_cons, or_t_l, or_f_l, Nat.reduceBEq, Nat.reduceDiv, Nat.reduceAdd, beq_self_eq_true, Bool.false_eq_true, Bool.or_false, ↓reduceIte, Nat.reduceEqDiff, List.cons_append, List.nil_append]
              simp -dsimp -implicitDefEqProofs only [go_sem, ↓reduceIte, Nat.reduceEqDiff, Nat.reduceLT, Nat.reduceAdd, Nat.reduceMul, Nat.reduceLeDiff, Nat.le_refl, Int.natCast_zero, Int.toNat_natCast, Int.reduceToNat, hi, ht, gi]
              repeat' (with_reducible refine And.intro ?_ ?_)
              all_goals try (first | omega | (refine ⟨?_, ?_⟩ <;> omega))
              refine sCallT_one hcv ?_
              simp -dsimp -implicitDefEqProofs only [go_sem, ↓reduceIte, Nat.reduceEqDiff, Nat.reduceLT, Nat.reduceAdd, Nat.reduceMul, Nat.reduceLeDiff, Nat.le_refl, Int.natCast_zero, Int.toNat_natCast, Int.reduceToNat, h3, hv, ht, gi]
              repeat' (with_reducible refine And.intro ?_ ?_)
              all_goals try (first | omega | (refine ⟨?_, ?_⟩ <;> omega))
              simp -dsimp -implicitDefEqProofs only [go_sem, ↓reduceIte, Nat.reduceEqDiff, Nat.reduceLT, Nat.reduceAdd, Nat.reduceMul, Nat.reduceLeDiff, Nat.le_refl, Int.natCast_zero, Int.toNat_natCast, Int.reduceToNat, hm1, hv]
              repeat' (with_reducible refine And.intro ?_ ?_)
              all_goals try (first | omega | (refine ⟨?_, ?_⟩ <;> omega))
              refine ⟨i + 1, ⟨by omega, hgo hv⟩, by omega, ?_⟩
              rw [hvsu]
              simp -dsimp -implicitDefEqProofs only [go_sem, ↓reduceIte, Nat.reduceEqDiff, Nat.reduceLT, Nat.reduceAdd, Nat.reduceMul, Nat.reduceLeDiff, Nat.le_refl, Int.natCast_zero, Int.toNat_natCast, Int.reduceToNat]
              repeat' (with_reducible refine And.intro ?_ ?_)
              all_goals first | omega | (simp; done) | (simp; omega) | (rw [List.take_of_length_le (by simp; omega)]; simp; done) | trace_state
          · rw [if_pos ⟨y3, hm.1 hm1⟩] at hvn
            rw [hvn] at hfail hgo hvsu
            clear hfail
            generalize vNs ws i = ns at *
            simp -dsimp -implicitDefEqProofs only [pick_nil, pick_cons, look_nil, look_cons, dropB_nil, dropB_cons, inD_nil, inD_cons, inE_nil, inE_cons, or_t_l, or_f_l, Nat.reduceBEq, Nat.reduceDiv, Nat.reduceAdd, beq_self_eq_true, Bool.false_eq_true, Bool.or_false, ↓reduceIte, Nat.reduceEqDiff, List.cons_append, List.nil_append]
            simp -dsimp -implicitDefEqProofs only [go_sem, ↓reduceIte, Nat.reduceEqDiff, Nat.reduceLT, Nat.reduceAdd, Nat.reduceMul, Nat.reduceLeDiff, Nat.le_refl, Int.natCast_zero, Int.toNat_natCast, Int.reduceToNat, hi, ht, gi]
            repeat' (with_reducible refine And.intro ?_ ?_)
            all_goals try (first | omega | (refine ⟨?_, ?_⟩ <;> omega))
            refine sCallT_one hcv ?_
            simp -dsimp -implicitDefEqProofs only [go_sem, ↓reduceIte, Nat.reduceEqDiff, Nat.reduceLT, Nat.reduceAdd, Nat.reduceMul, Nat.reduceLeDiff, Nat.le_refl, Int.natCast_zero, Int.toNat_natCast, Int.reduceToNat, h3, ht, gi]
            repeat' (with_reducible refine And.intro ?_ ?_)
            all_goals try (first | omega | (refine ⟨?_, ?_⟩ <;> omega))
            simp -dsimp -implicitDefEqProofs only [go_sem, ↓reduceIte, Nat.reduceEqDiff, Nat.reduceLT, Nat.reduceAdd, Nat.reduceMul, Nat.reduceLeDiff, Nat.le_refl, Int.natCast_zero, Int.toNat_natCast, Int.reduceToNat, hm1]
            repeat' (with_reducible refine And.intro ?_ ?_)
            all_goals try (first | omega | (refine ⟨?_, ?_⟩ <;> omega))
            refine ⟨i + 1, ⟨by omega, hgo rfl⟩, by omega, ?_⟩
            rw [hvsu]
            simp -dsimp -implicitDefEqProofs only [go_sem, ↓reduceIte, Nat.reduceEqDiff, Nat.reduceLT, Nat.reduceAdd, Nat.reduceMul, Nat.reduceLeDiff, Nat.le_refl, Int.natCast_zero, Int.toNat_natCast, Int.reduceToNat]
            repeat' (with_reducible refine And.intro ?_ ?_)
            all_goals first | omega | (simp; done) | (simp; omega) | (rw [List.take_of_length_le (by simp; omega)]; simp; done) | trace_state
  · have e5 : ¬ ws.length = 5 := fun e => by rw [e] at h5; simp at h5
    rw [if_neg (fun q => e5 q.1)]
    simp -dsimp -implicitDefEqProofs only [go_sem, ↓reduceIte, Nat.reduceEqDiff, Nat.reduceLT, Nat.reduceAdd, Nat.reduceMul, Nat.reduceLeDiff, Nat.le_refl, Int.natCast_zero, Int.toNat_natCast, Int.reduceToNat, h5]
    repeat' (with_reducible refine And.intro ?_ ?_)
    all_goals (first | omega | (refine ⟨?_, ?_⟩ <;> omega) | (exact rfl) | (simp; done) | trace_state)
end Go.Vc
