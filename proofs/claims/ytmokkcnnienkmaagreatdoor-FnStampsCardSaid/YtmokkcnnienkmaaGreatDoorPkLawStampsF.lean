import Derived.Test.YtmokkcnnienkmaaGreatDoorPkLawStampsE
/-
  Contracts: how stamps are read; secrets.
-/
set_option linter.unusedVariables false
set_option linter.unusedSimpArgs false
set_option linter.unnecessarySimpa false
namespace Go.Vc
open Go.Proofs Go.Lib
set_option maxRecDepth 100000
set_option maxHeartbeats 2000000
theorem getD_in {s : List UInt8} {i : Nat} (h : i < s.length) : s.getD i 0 = s[i] := by simp [List.getD_eq_getElem?_getD, h]
theorem c_readStamp (K : Int) (s : List UInt8) (hK : 0 ≤ K ∧ K ≤ 262144) (h : s.length ≤ 1048576) : Fn Tryz.prog 59 [eI K, eS s] true (· = .tup [eI (readI K s).1, eI (readI K s).2.1, eB (readI K s).2.2]) := by
  refine Fn.of_vcN 56 [.tmp 4, .tmp 5, .tmp 6] Tryz.func59 rfl rfl rfl rfl rfl (of_decide_eq_true rfl) ?_
  have ht := c_text (n := K) ⟨by omega, by omega⟩
  have hw6 : (itoa K).length ≤ 6 := by rw [itoa_of_nonneg hK.1]; exact dec_len_le 5 _ (by omega)
  have hR : readI K s = if s.length = (itoa K).length + 4 then
    if isIn (((s.getD 0 0).toNat : Int) - 65) 0 25 = true ∧ isIn (dsum s (itoa K).length) 0 (K - 1) = true ∧ stampS (itoa K).length (((s.getD 0 0).toNat : Int) - 65) (dsum s (itoa K).length) = s then (((s.getD 0 0).toNat : Int) - 65, dsum s (itoa K).length, true) else (0, 0, false)
    else (0, 0, false) := rfl
  have hst := fun se n => c_stampText K se n (by omega)
  rw [hR]
  clear hR
  generalize itoa K = A at *
  rcases hl : ((s.length : Int) != (A.length : Int) + 4) with _ | _
  · have hl' : s.length = A.length + 4 := by simp at hl; omega
    have h0 := (s.getD 0 0).toNat_lt
    have hdb := dsum_bound s
    have hp6 : ∀ i, i ≤ A.length → (10 : Int) ^ i ≤ 10 ^ 6 := fun i hi => by
      have : 10 ^ i ≤ 10 ^ 6 := Nat.pow_le_pow_right (by decide) (by omega)
      exact_mod_cast this
    rw [if_pos hl']
    replace hl' : A.length + 4 ≤ s.length ∧ s.length ≤ A.length + 4 := by omega
    simp -dsimp -implicitDefEqProofs only [go_sem, ↓reduceIte, Nat.reduceEqDiff, Nat.reduceLT, Nat.reduceAdd, Nat.reduceMul, Nat.reduceLeDiff, Nat.le_refl, Int.natCast_zero, Int.toNat_natCast, Int.reduceToNat]
    repeat' (refine sCallT_one (ht) ?_; try simp -dsimp -implicitDefEqProofs only [go_sem, ↓reduceIte, Nat.reduceEqDiff, Nat.reduceLT, Nat.reduceAdd, Nat.reduceMul, Nat.reduceLeDiff, Nat.le_refl, Int.natCast_zero, Int.toNat_natCast, Int.reduceToNat, *])
    ((repeat' (with_reducible refine And.intro ?_ ?_)); all_goals try (first | omega | (refine ⟨?_, ?_⟩ <;> omega) | (exact rfl)))
    refine Later.up [0, 1, 7, 8] [] [] A.length (fun _ => True) (fun i => [(9, eI (dsum s i)), (10, eI ((i + 1 : Nat) : Int))]) (fun _ => []) trivial ?_ rfl (fun i hi _ => ?_) (fun _ => ?_)
    · simp -dsimp -implicitDefEqProofs only [go_sem, ↓reduceIte, Nat.reduceEqDiff, Nat.reduceLT, Nat.reduceAdd, Nat.reduceMul, Nat.reduceLeDiff, Nat.le_refl, Int.natCast_zero, Int.toNat_natCast, Int.reduceToNat]
      all_goals first | (simp [dsum]; done) | trace_state
    · have hlt : decide (((i + 1 : Nat) : Int) ≤ (A.length : Int)) = true := decide_eq_true (by omega)
      have hb := hdb i
      have hp := hp6 i (by omega)
      have hby := (s.getD (i + 1) 0).toNat_lt
      have hds : dsum s (i + 1) = dsum s i * 10 + ((s.getD (i + 1) 0).toNat : Int) - 48 := rfl
      rw [hds]
      clear hds hdb hp6 hst
      generalize dsum s i = D at *
      generalize (10 : Int) ^ i = p at *
      simp -dsimp -implicitDefEqProofs only [pick_nil, pick_cons, look_nil, look_cons, dropB_nil, dropB_cons, inD_nil, inD_cons, inE_nil, inE_cons, or_t_l, or_f_l, Nat.reduceBEq, Nat.reduceDiv, Nat.reduceAdd, beq_self_eq_true, Bool.false_eq_true, Bool.or_false, ↓reduceIte, Nat.reduceEqDiff, List.cons_append, List.nil_append]
      simp -dsimp -implicitDefEqProofs only [go_sem, ↓reduceIte, Nat.reduceEqDiff, Nat.reduceLT, Nat.reduceAdd, Nat.reduceMul, Nat.reduceLeDiff, Nat.le_refl, Int.natCast_zero, Int.toNat_natCast, Int.reduceToNat, hlt]
      generalize (s.getD (i + 1) 0).toNat = x at *
      ((repeat' (with_reducible refine And.intro ?_ ?_)); all_goals try (first | omega | (refine ⟨?_, ?_⟩ <;> omega) | (exact rfl)))
      all_goals first | (simp; done) | trace_state
    · have hlt : decide (((A.length + 1 : Nat) : Int) ≤ (A.length : Int)) = false := decide_eq_false (by omega)
      have hb := hdb A.length
      have hp := hp6 A.length (Nat.le_refl _)
      clear hdb hp6
      have h00 : (0 : Int) ≤ ((s.getD 0 0).toNat : Int) := Int.natCast_nonneg _
      generalize ((s.getD 0 0).toNat : Int) = x at *
      generalize dsum s A.length = D at *
      generalize (10 : Int) ^ A.length = p at *
      have hw1 := c_within (x - 65) 0 25
      have hw2 := c_within D 0 (K - 1)
      simp -dsimp -implicitDefEqProofs only [pick_nil, pick_cons, look_nil, look_cons, dropB_nil, dropB_cons, inD_nil, inD_cons, inE_nil, inE_cons, or_t_l, or_f_l, Nat.reduceBEq, Nat.reduceDiv, Nat.reduceAdd, beq_self_eq_true, Bool.false_eq_true, Bool.or_false, ↓reduceIte, Nat.reduceEqDiff, List.cons_append, List.nil_append]
      simp -dsimp -implicitDefEqProofs only [go_sem, ↓reduceIte, Nat.reduceEqDiff, Nat.reduceLT, Nat.reduceAdd, Nat.reduceMul, Nat.reduceLeDiff, Nat.le_refl, Int.natCast_zero, Int.toNat_natCast, Int.reduceToNat, hlt]
      rcases hb1 : isIn (x - 65) 0 25 with _ | _
      · rw [hb1] at hw1
        rw [if_neg (by simp)]
        clear hst hw2
        repeat' (refine sCallT_one (hw1) ?_; try simp -dsimp -implicitDefEqProofs only [go_sem, ↓reduceIte, Nat.reduceEqDiff, Nat.reduceLT, Nat.reduceAdd, Nat.reduceMul, Nat.reduceLeDiff, Nat.le_refl, Int.natCast_zero, Int.toNat_natCast, Int.reduceToNat, *])
        ((repeat' (with_reducible refine And.intro ?_ ?_)); all_goals try (first | omega | (refine ⟨?_, ?_⟩ <;> omega) | (exact rfl)))
        all_goals trace_state
      · rw [hb1] at hw1
        rcases hb2 : isIn D 0 (K - 1) with _ | _
        · rw [hb2] at hw2
          rw [if_neg (by simp)]
          clear hst hb1
          repeat' (refine sCallT_one (hw1) ?_; try simp -dsimp -implicitDefEqProofs only [go_sem, ↓reduceIte, Nat.reduceEqDiff, Nat.reduceLT, Nat.reduceAdd, Nat.reduceMul, Nat.reduceLeDiff, Nat.le_refl, Int.natCast_zero, Int.toNat_natCast, Int.reduceToNat, *])
          ((repeat' (with_reducible refine And.intro ?_ ?_)); all_goals try (first | omega | (refine ⟨?_, ?_⟩ <;> omega) | (exact rfl)))
          all_goals try (refine sCallT_one (hw2) ?_; try simp -dsimp -implicitDefEqProofs only [go_sem, ↓reduceIte, Nat.reduceEqDiff, Nat.reduceLT, Nat.reduceAdd, Nat.reduceMul, Nat.reduceLeDiff, Nat.le_refl, Int.natCast_zero, Int.toNat_natCast, Int.reduceToNat, *])
          ((repeat' (with_reducible refine And.intro ?_ ?_)); all_goals try (first | omega | (refine ⟨?_, ?_⟩ <;> omega) | (exact rfl)))
          all_goals trace_state
        · rw [hb2] at hw2
          have hst' := hst (x - 65) D (by simp [isIn] at hb1; omega) (by simp [isIn] at hb2; omega)
          by_cases h3 : stampS A.length (x - 65) D = s
          · rw [if_pos ⟨rfl, rfl, h3⟩]
            rw [h3] at hst'
            clear hst hb1 hb2 h3
            repeat' (refine sCallT_one (hw1) ?_; try simp -dsimp -implicitDefEqProofs only [go_sem, ↓reduceIte, Nat.reduceEqDiff, Nat.reduceLT, Nat.reduceAdd, Nat.reduceMul, Nat.reduceLeDiff, Nat.le_refl, Int.natCast_zero, Int.toNat_natCast, Int.reduceToNat, *])
            ((repeat' (with_reducible refine And.intro ?_ ?_)); all_goals try (first | omega | (refine ⟨?_, ?_⟩ <;> omega) | (exact rfl)))
            all_goals try (refine sCallT_one (hw2) ?_; try simp -dsimp -implicitDefEqProofs only [go_sem, ↓reduceIte, Nat.reduceEqDiff, Nat.reduceLT, Nat.reduceAdd, Nat.reduceMul, Nat.reduceLeDiff, Nat.le_refl, Int.natCast_zero, Int.toNat_natCast, Int.reduceToNat, *])
            ((repeat' (with_reducible refine And.intro ?_ ?_)); all_goals try (first | omega | (refine ⟨?_, ?_⟩ <;> omega) | (exact rfl)))
            all_goals try (refine sCallT_one (hst') ?_; try simp -dsimp -implicitDefEqProofs only [go_sem, ↓reduceIte, Nat.reduceEqDiff, Nat.reduceLT, Nat.reduceAdd, Nat.reduceMul, Nat.reduceLeDiff, Nat.le_refl, Int.natCast_zero, Int.toNat_natCast, Int.reduceToNat, *])
            ((repeat' (with_reducible refine And.intro ?_ ?_)); all_goals try (first | omega | (refine ⟨?_, ?_⟩ <;> omega) | (exact rfl)))
            all_goals first | (simp; done) | trace_state
          · rw [if_neg (fun h => h3 h.2.2)]
            have h3' := decide_eq_false h3
            clear hst hb1 hb2 h3
            generalize stampS A.length (x - 65) D = T at *
            repeat' (refine sCallT_one (hw1) ?_; try simp -dsimp -implicitDefEqProofs only [go_sem, ↓reduceIte, Nat.reduceEqDiff, Nat.reduceLT, Nat.reduceAdd, Nat.reduceMul, Nat.reduceLeDiff, Nat.le_refl, Int.natCast_zero, Int.toNat_natCast, Int.reduceToNat, *])
            ((repeat' (with_reducible refine And.intro ?_ ?_)); all_goals try (first | omega | (refine ⟨?_, ?_⟩ <;> omega) | (exact rfl)))
            all_goals try (refine sCallT_one (hw2) ?_; try simp -dsimp -implicitDefEqProofs only [go_sem, ↓reduceIte, Nat.reduceEqDiff, Nat.reduceLT, Nat.reduceAdd, Nat.reduceMul, Nat.reduceLeDiff, Nat.le_refl, Int.natCast_zero, Int.toNat_natCast, Int.reduceToNat, *])
            ((repeat' (with_reducible refine And.intro ?_ ?_)); all_goals try (first | omega | (refine ⟨?_, ?_⟩ <;> omega) | (exact rfl)))
            all_goals try (refine sCallT_one (hst') ?_; try simp -dsimp -implicitDefEqProofs only [go_sem, ↓reduceIte, Nat.reduceEqDiff, Nat.reduceLT, Nat.reduceAdd, Nat.reduceMul, Nat.reduceLeDiff, Nat.le_refl, Int.natCast_zero, Int.toNat_natCast, Int.reduceToNat, *])
            ((repeat' (with_reducible refine And.intro ?_ ?_)); all_goals try (first | omega | (refine ⟨?_, ?_⟩ <;> omega) | (exact rfl)))
            all_goals first | (simp; done) | trace_state
  · have hl' : ¬ s.length = A.length + 4 := by simp at hl; omega
    rw [if_neg hl']
    clear hl'
    simp -dsimp -implicitDefEqProofs only [go_sem, ↓reduceIte, Nat.reduceEqDiff, Nat.reduceLT, Nat.reduceAdd, Nat.reduceMul, Nat.reduceLeDiff, Nat.le_refl, Int.natCast_zero, Int.toNat_natCast, Int.reduceToNat]
    repeat' (refine sCallT_one (ht) ?_; try simp -dsimp -implicitDefEqProofs only [go_sem, ↓reduceIte, Nat.reduceEqDiff, Nat.reduceLT, Nat.reduceAdd, Nat.reduceMul, Nat.reduceLeDiff, Nat.le_refl, Int.natCast_zero, Int.toNat_natCast, Int.reduceToNat, *])
    ((repeat' (with_reducible refine And.intro ?_ ?_)); all_goals try (first | omega | (refine ⟨?_, ?_⟩ <;> omega) | (exact rfl)))
    all_goals trace_state
theorem c_l28Read (m : MkM) (hm : isMk m = true) (s : List UInt8) (h : s.length ≤ 1048576) : Fn Tryz.prog 61 [eMk m, eS s] true
    (· = .tup [eI (readS (cnt m m.chambers.toNat []) s).1, eI (readS (cnt m m.chambers.toNat []) s).2.1, eB (readS (cnt m m.chambers.toNat []) s).2.2]) := by
  refine Fn.of_vcN 68 [.tmp 4, .tmp 5, .tmp 6] Tryz.func61 rfl rfl rfl rfl rfl (of_decide_eq_true rfl) ?_
  have hC := cnt_nil_bound m hm
  have hdg := c_l28Digits m hm
  have hcn := c_l02Count0 m hm
  have htx := c_l28Text m hm
  generalize cnt m m.chambers.toNat [] = N at *
  have hw6 : (itoa (N : Int)).length ≤ 6 := by rw [itoa_of_nonneg (by omega)]; exact dec_len_le 5 _ (by omega)
  have hR : readS N s = if s.length = (itoa (N : Int)).length + 4 ∧ 65 ≤ (s.getD 0 0).toNat ∧ (s.getD 0 0).toNat ≤ 90 ∧ dgs s (itoa (N : Int)).length = true then
    (((s.getD 0 0).toNat : Int) - 65, dsum s (itoa (N : Int)).length, decide (dsum s (itoa (N : Int)).length < N) && decide (stampS (itoa (N : Int)).length (((s.getD 0 0).toNat : Int) - 65) (dsum s (itoa (N : Int)).length) = s))
    else (0, 0, false) := rfl
  generalize readS N s = R at *
  generalize itoa (N : Int) = A at *
  rcases hl : ((s.length : Int) != (A.length : Int) + 4) with _ | _
  · have hl' : s.length = A.length + 4 := by simp at hl; omega
    have h0 := (s.getD 0 0).toNat_lt
    rcases hs1 : decide (((s.getD 0 0).toNat : Int) < 65) with _ | _
    · rcases hs2 : decide (((s.getD 0 0).toNat : Int) > 90) with _ | _
      · have q1 := of_decide_eq_false hs1
        have q2 := of_decide_eq_false hs2
        have hR1 : dgs s A.length = false → R = (0, 0, false) := fun hh => by rw [hR, if_neg]; rintro ⟨_, _, _, h4⟩; rw [hh] at h4; cases h4
        have hR2 : dgs s A.length = true → R = (((s.getD 0 0).toNat : Int) - 65, dsum s A.length, decide (dsum s A.length < N) && decide (stampS A.length (((s.getD 0 0).toNat : Int) - 65) (dsum s A.length) = s)) := fun hh => by rw [hR, if_pos ⟨hl', by omega, by omega, hh⟩]
        replace hl' : A.length + 4 ≤ s.length ∧ s.length ≤ A.length + 4 := by omega
        have hdb := dsum_bound s
        have hp6 : ∀ i, i ≤ A.length → (10 : Int) ^ i ≤ 10 ^ 6 := fun i hi => by
          have : 10 ^ i ≤ 10 ^ 6 := Nat.pow_le_pow_right (by decide) (by omega)
          exact_mod_cast this
        clear hR
        simp -dsimp -implicitDefEqProofs only [go_sem, ↓reduceIte, Nat.reduceEqDiff, Nat.reduceLT, Nat.reduceAdd, Nat.reduceMul, Nat.reduceLeDiff, Nat.le_refl, Int.natCast_zero, Int.toNat_natCast, Int.reduceToNat]
        repeat' (refine sCallT_one (hdg) ?_; try simp -dsimp -implicitDefEqProofs only [go_sem, ↓reduceIte, Nat.reduceEqDiff, Nat.reduceLT, Nat.reduceAdd, Nat.reduceMul, Nat.reduceLeDiff, Nat.le_refl, Int.natCast_zero, Int.toNat_natCast, Int.reduceToNat, *])
        ((repeat' (with_reducible refine And.intro ?_ ?_)); all_goals try (first | omega | (refine ⟨?_, ?_⟩ <;> omega) | (exact rfl)))
        refine Later.up [1, 2] [28] [] A.length (fun i => dgs s i = true) (fun i => [(7, eI (dsum s i)), (8, eI ((i + 1 : Nat) : Int))]) (fun _ => []) rfl ?_ rfl (fun i hi hI => ?_) (fun hI => ?_)
        · simp -dsimp -implicitDefEqProofs only [go_sem, ↓reduceIte, Nat.reduceEqDiff, Nat.reduceLT, Nat.reduceAdd, Nat.reduceMul, Nat.reduceLeDiff, Nat.le_refl, Int.natCast_zero, Int.toNat_natCast, Int.reduceToNat]
          all_goals first | (simp [dsum]; done) | trace_state
        · have hlt : decide (((i + 1 : Nat) : Int) ≤ (A.length : Int)) = true := decide_eq_true (by omega)
          have hb := hdb i
          have hp := hp6 i (by omega)
          have hby := (s.getD (i + 1) 0).toNat_lt
          have hds : dsum s (i + 1) = dsum s i * 10 + ((s.getD (i + 1) 0).toNat : Int) - 48 := rfl
          have hnn := dsum_nonneg hI i (Nat.le_refl _)
          have no : isDg (s.getD (i + 1) 0) = false → R = (0, 0, false) := fun hh => hR1 (range_all_no hi hh)
          have yes : isDg (s.getD (i + 1) 0) = true → dgs s (i + 1) = true := fun hh => by
            have : dgs s (i + 1) = (dgs s i && isDg (s.getD (i + 1) 0)) := range_all_succ _ i
            rw [this, hI, hh]; rfl
          have hdgx : isDg (s.getD (i + 1) 0) = (decide (48 ≤ (s.getD (i + 1) 0).toNat) && decide ((s.getD (i + 1) 0).toNat ≤ 57)) := rfl
          rw [hdgx] at no yes
          rw [hds]
          clear hds hdb hp6 htx hR1 hR2 hcn hdgx
          generalize dsum s i = D at *
          generalize (10 : Int) ^ i = p at *
          rcases hx1 : decide (((s.getD (i + 1) 0).toNat : Int) < 48) with _ | _
          · rcases hx2 : decide (((s.getD (i + 1) 0).toNat : Int) > 57) with _ | _
            · have e1 := of_decide_eq_false hx1
              have e2 := of_decide_eq_false hx2
              have hw : IntKind.u8.wrap (((s.getD (i + 1) 0).toNat : Int) - 48) = ((s.getD (i + 1) 0).toNat : Int) - 48 := u8_wrap (by omega)
              have yes := yes (by rw [decide_eq_true (by omega), decide_eq_true (by omega)]; rfl)
              clear no
              simp -dsimp -implicitDefEqProofs only [pick_nil, pick_cons, look_nil, look_cons, dropB_nil, dropB_cons, inD_nil, inD_cons, inE_nil, inE_cons, or_t_l, or_f_l, Nat.reduceBEq, Nat.reduceDiv, Nat.reduceAdd, beq_self_eq_true, Bool.false_eq_true, Bool.or_false, ↓reduceIte, Nat.reduceEqDiff, List.cons_append, List.nil_append]
              simp -dsimp -implicitDefEqProofs only [go_sem, ↓reduceIte, Nat.reduceEqDiff, Nat.reduceLT, Nat.reduceAdd, Nat.reduceMul, Nat.reduceLeDiff, Nat.le_refl, Int.natCast_zero, Int.toNat_natCast, Int.reduceToNat]
              repeat' (refine sCallT_one (hdg) ?_; try simp -dsimp -implicitDefEqProofs only [go_sem, ↓reduceIte, Nat.reduceEqDiff, Nat.reduceLT, Nat.reduceAdd, Nat.reduceMul, Nat.reduceLeDiff, Nat.le_refl, Int.natCast_zero, Int.toNat_natCast, Int.reduceToNat, *])
              ((repeat' (with_reducible refine And.intro ?_ ?_)); all_goals try (first | omega | (refine ⟨?_, ?_⟩ <;> omega) | (exact rfl)))
              all_goals first
                | exact yes
                | (congr 1; omega)
                | (simp; done)
                | trace_state
            · have e2 := of_decide_eq_true hx2
              have no := no (by rw [decide_eq_false (show ¬ (s.getD (i + 1) 0).toNat ≤ 57 by omega)]; simp)
              clear yes
              rw [no]
              clear no
              simp -dsimp -implicitDefEqProofs only [pick_nil, pick_cons, look_nil, look_cons, dropB_nil, dropB_cons, inD_nil, inD_cons, inE_nil, inE_cons, or_t_l, or_f_l, Nat.reduceBEq, Nat.reduceDiv, Nat.reduceAdd, beq_self_eq_true, Bool.false_eq_true, Bool.or_false, ↓reduceIte, Nat.reduceEqDiff, List.cons_append, List.nil_append]
              simp -dsimp -implicitDefEqProofs only [go_sem, ↓reduceIte, Nat.reduceEqDiff, Nat.reduceLT, Nat.reduceAdd, Nat.reduceMul, Nat.reduceLeDiff, Nat.le_refl, Int.natCast_zero, Int.toNat_natCast, Int.reduceToNat]
              repeat' (refine sCallT_one (hdg) ?_; try simp -dsimp -implicitDefEqProofs only [go_sem, ↓reduceIte, Nat.reduceEqDiff, Nat.reduceLT, Nat.reduceAdd, Nat.reduceMul, Nat.reduceLeDiff, Nat.le_refl, Int.natCast_zero, Int.toNat_natCast, Int.reduceToNat, *])
              ((repeat' (with_reducible refine And.intro ?_ ?_)); all_goals try (first | omega | (refine ⟨?_, ?_⟩ <;> omega) | (exact rfl)))
              all_goals trace_state
          · have e2 := of_decide_eq_true hx1
            have no := no (by rw [decide_eq_false (show ¬ 48 ≤ (s.getD (i + 1) 0).toNat by omega)]; simp)
            clear yes
            rw [no]
            clear no
            simp -dsimp -implicitDefEqProofs only [pick_nil, pick_cons, look_nil, look_cons, dropB_nil, dropB_cons, inD_nil, inD_cons, inE_nil, inE_cons, or_t_l, or_f_l, Nat.reduceBEq, Nat.reduceDiv, Nat.reduceAdd, beq_self_eq_true, Bool.false_eq_true, Bool.or_false, ↓reduceIte, Nat.reduceEqDiff, List.cons_append, List.nil_append]
            simp -dsimp -implicitDefEqProofs only [go_sem, ↓reduceIte, Nat.reduceEqDiff, Nat.reduceLT, Nat.reduceAdd, Nat.reduceMul, Nat.reduceLeDiff, Nat.le_refl, Int.natCast_zero, Int.toNat_natCast, Int.reduceToNat]
            repeat' (refine sCallT_one (hdg) ?_; try simp -dsimp -implicitDefEqProofs only [go_sem, ↓reduceIte, Nat.reduceEqDiff, Nat.reduceLT, Nat.reduceAdd, Nat.reduceMul, Nat.reduceLeDiff, Nat.le_refl, Int.natCast_zero, Int.toNat_natCast, Int.reduceToNat, *])
            ((repeat' (with_reducible refine And.intro ?_ ?_)); all_goals try (first | omega | (refine ⟨?_, ?_⟩ <;> omega) | (exact rfl)))
            all_goals trace_state
        · have hlt : decide (((A.length + 1 : Nat) : Int) ≤ (A.length : Int)) = false := decide_eq_false (by omega)
          have hb := hdb A.length
          have hp := hp6 A.length (Nat.le_refl _)
          have hnn := dsum_nonneg hI A.length (Nat.le_refl _)
          have hw : IntKind.u8.wrap (((s.getD 0 0).toNat : Int) - 65) = ((s.getD 0 0).toNat : Int) - 65 := u8_wrap (by omega)
          rw [hR2 hI]
          clear hR1 hR2 hdb hp6 hI
          rcases hq : decide (dsum s A.length < (N : Int)) with _ | _
          · clear htx
            generalize dsum s A.length = D at *
            simp only [Bool.false_and]
            simp -dsimp -implicitDefEqProofs only [pick_nil, pick_cons, look_nil, look_cons, dropB_nil, dropB_cons, inD_nil, inD_cons, inE_nil, inE_cons, or_t_l, or_f_l, Nat.reduceBEq, Nat.reduceDiv, Nat.reduceAdd, beq_self_eq_true, Bool.false_eq_true, Bool.or_false, ↓reduceIte, Nat.reduceEqDiff, List.cons_append, List.nil_append]
            simp -dsimp -implicitDefEqProofs only [go_sem, ↓reduceIte, Nat.reduceEqDiff, Nat.reduceLT, Nat.reduceAdd, Nat.reduceMul, Nat.reduceLeDiff, Nat.le_refl, Int.natCast_zero, Int.toNat_natCast, Int.reduceToNat]
            repeat' (refine sCallT_one (hdg) ?_; try simp -dsimp -implicitDefEqProofs only [go_sem, ↓reduceIte, Nat.reduceEqDiff, Nat.reduceLT, Nat.reduceAdd, Nat.reduceMul, Nat.reduceLeDiff, Nat.le_refl, Int.natCast_zero, Int.toNat_natCast, Int.reduceToNat, *])
            ((repeat' (with_reducible refine And.intro ?_ ?_)); all_goals try (first | omega | (refine ⟨?_, ?_⟩ <;> omega) | (exact rfl)))
            all_goals try (refine sCallT_one (hcn) ?_; try simp -dsimp -implicitDefEqProofs only [go_sem, ↓reduceIte, Nat.reduceEqDiff, Nat.reduceLT, Nat.reduceAdd, Nat.reduceMul, Nat.reduceLeDiff, Nat.le_refl, Int.natCast_zero, Int.toNat_natCast, Int.reduceToNat, *])
            ((repeat' (with_reducible refine And.intro ?_ ?_)); all_goals try (first | omega | (refine ⟨?_, ?_⟩ <;> omega) | (exact rfl)))
            all_goals trace_state
          · have q3 := of_decide_eq_true hq
            have htx := htx (((s.getD 0 0).toNat : Int) - 65) (dsum s A.length) (by omega) (by omega)
            generalize dsum s A.length = D at *
            generalize hT : stampS A.length (((s.getD 0 0).toNat : Int) - 65) D = T at *
            clear hT
            simp only [Bool.true_and]
            simp -dsimp -implicitDefEqProofs only [pick_nil, pick_cons, look_nil, look_cons, dropB_nil, dropB_cons, inD_nil, inD_cons, inE_nil, inE_cons, or_t_l, or_f_l, Nat.reduceBEq, Nat.reduceDiv, Nat.reduceAdd, beq_self_eq_true, Bool.false_eq_true, Bool.or_false, ↓reduceIte, Nat.reduceEqDiff, List.cons_append, List.nil_append]
            simp -dsimp -implicitDefEqProofs only [go_sem, ↓reduceIte, Nat.reduceEqDiff, Nat.reduceLT, Nat.reduceAdd, Nat.reduceMul, Nat.reduceLeDiff, Nat.le_refl, Int.natCast_zero, Int.toNat_natCast, Int.reduceToNat]
            repeat' (refine sCallT_one (hdg) ?_; try simp -dsimp -implicitDefEqProofs only [go_sem, ↓reduceIte, Nat.reduceEqDiff, Nat.reduceLT, Nat.reduceAdd, Nat.reduceMul, Nat.reduceLeDiff, Nat.le_refl, Int.natCast_zero, Int.toNat_natCast, Int.reduceToNat, *])
            ((repeat' (with_reducible refine And.intro ?_ ?_)); all_goals try (first | omega | (refine ⟨?_, ?_⟩ <;> omega) | (exact rfl)))
            all_goals try (refine sCallT_one (hcn) ?_; try simp -dsimp -implicitDefEqProofs only [go_sem, ↓reduceIte, Nat.reduceEqDiff, Nat.reduceLT, Nat.reduceAdd, Nat.reduceMul, Nat.reduceLeDiff, Nat.le_refl, Int.natCast_zero, Int.toNat_natCast, Int.reduceToNat, *])
            ((repeat' (with_reducible refine And.intro ?_ ?_)); all_goals try (first | omega | (refine ⟨?_, ?_⟩ <;> omega) | (exact rfl)))
            all_goals try (refine sCallT_one (htx) ?_; try simp -dsimp -implicitDefEqProofs only [go_sem, ↓reduceIte, Nat.reduceEqDiff, Nat.reduceLT, Nat.reduceAdd, Nat.reduceMul, Nat.reduceLeDiff, Nat.le_refl, Int.natCast_zero, Int.toNat_natCast, Int.reduceToNat, *])
            ((repeat' (with_reducible refine And.intro ?_ ?_)); all_goals try (first | omega | (refine ⟨?_, ?_⟩ <;> omega) | (exact rfl)))
            all_goals trace_state
      · have hR0 : R = (0, 0, false) := by rw [hR, if_neg]; rintro ⟨_, _, h3, _⟩; have := of_decide_eq_true hs2; omega
        replace hl' : A.length + 4 ≤ s.length ∧ s.length ≤ A.length + 4 := by omega
        rw [hR0]
        clear hR hR0 htx hcn
        simp -dsimp -implicitDefEqProofs only [go_sem, ↓reduceIte, Nat.reduceEqDiff, Nat.reduceLT, Nat.reduceAdd, Nat.reduceMul, Nat.reduceLeDiff, Nat.le_refl, Int.natCast_zero, Int.toNat_natCast, Int.reduceToNat]
        repeat' (refine sCallT_one (hdg) ?_; try simp -dsimp -implicitDefEqProofs only [go_sem, ↓reduceIte, Nat.reduceEqDiff, Nat.reduceLT, Nat.reduceAdd, Nat.reduceMul, Nat.reduceLeDiff, Nat.le_refl, Int.natCast_zero, Int.toNat_natCast, Int.reduceToNat, *])
        ((repeat' (with_reducible refine And.intro ?_ ?_)); all_goals try (first | omega | (refine ⟨?_, ?_⟩ <;> omega) | (exact rfl)))
        all_goals trace_state
    · have hR0 : R = (0, 0, false) := by rw [hR, if_neg]; rintro ⟨_, h2, _, _⟩; have := of_decide_eq_true hs1; omega
      replace hl' : A.length + 4 ≤ s.length ∧ s.length ≤ A.length + 4 := by omega
      rw [hR0]
      clear hR hR0 htx hcn
      simp -dsimp -implicitDefEqProofs only [go_sem, ↓reduceIte, Nat.reduceEqDiff, Nat.reduceLT, Nat.reduceAdd, Nat.reduceMul, Nat.reduceLeDiff, Nat.le_refl, Int.natCast_zero, Int.toNat_natCast, Int.reduceToNat]
      repeat' (refine sCallT_one (hdg) ?_; try simp -dsimp -implicitDefEqProofs only [go_sem, ↓reduceIte, Nat.reduceEqDiff, Nat.reduceLT, Nat.reduceAdd, Nat.reduceMul, Nat.reduceLeDiff, Nat.le_refl, Int.natCast_zero, Int.toNat_natCast, Int.reduceToNat, *])
      ((repeat' (with_reducible refine And.intro ?_ ?_)); all_goals try (first | omega | (refine ⟨?_, ?_⟩ <;> omega) | (exact rfl)))
      all_goals trace_state
  · have hl' : ¬ s.length = A.length + 4 := by simp at hl; omega
    have hR0 : R = (0, 0, false) := by rw [hR, if_neg fun h => hl' h.1]
    rw [hR0]
    clear hR hR0 hl' htx hcn
    simp -dsimp -implicitDefEqProofs only [go_sem, ↓reduceIte, Nat.reduceEqDiff, Nat.reduceLT, Nat.reduceAdd, Nat.reduceMul, Nat.reduceLeDiff, Nat.le_refl, Int.natCast_zero, Int.toNat_natCast, Int.reduceToNat]
    repeat' (refine sCallT_one (hdg) ?_; try simp -dsimp -implicitDefEqProofs only [go_sem, ↓reduceIte, Nat.reduceEqDiff, Nat.reduceLT, Nat.reduceAdd, Nat.reduceMul, Nat.reduceLeDiff, Nat.le_refl, Int.natCast_zero, Int.toNat_natCast, Int.reduceToNat, *])
    ((repeat' (with_reducible refine And.intro ?_ ?_)); all_goals try (first | omega | (refine ⟨?_, ?_⟩ <;> omega) | (exact rfl)))
    all_goals trace_state
end Go.Vc


/-
  The contract of the law on secrets.
-/
set_option linter.unusedVariables false
set_option linter.unusedSimpArgs false
set_option linter.unnecessarySimpa false
namespace Go.Vc
open Go.Proofs Go.Lib
set_option maxRecDepth 100000
set_option maxHeartbeats 2000000
def allN (m : MkM) : Int := cnt m m.chambers.toNat []
theorem read_bound {K : Int} {s : List UInt8} (h : (readS K s).2.2 = true) : 0 ≤ (readS K s).2.1 ∧ (readS K s).2.1 < K := by
  unfold readS at h ⊢
  split at h
  · rename_i hc
    rw [if_pos hc]
    simp only [Bool.and_eq_true, decide_eq_true_eq] at h
    exact ⟨dsum_nonneg hc.2.2.2 _ (Nat.le_refl _), h.1⟩
  · cases h
end Go.Vc


/-
  Contracts: impl.eachKey's closure, with the visitor of KeyAt.
-/
set_option linter.unusedVariables false
set_option linter.unusedSimpArgs false
set_option linter.unnecessarySimpa false
namespace Go.Vc
open Go.Proofs
set_option maxRecDepth 100000
set_option maxHeartbeats 4000000
/-- the number that is left, and what is found -/
def fAV : Option (List Int) → AV
  | none => .val (.slice none 0 0)
  | some k => eIs k
theorem labs_fAV (o : Option (List Int)) : labs (fAV o) = [] := by cases o <;> rfl
theorem leaf_fAV (o : Option (List Int)) : leaf (fAV o) = True := by cases o <;> simp [fAV, leaf]
theorem refV1_fAV (m m2 : Mem) (o : Option (List Int)) : refV1 m m2 (fAV o) (fAV o) = True := by cases o <;> simp [fAV, refV1, refV]
attribute [go_sem] labs_fAV leaf_fAV refV1_fAV
attribute [simp] labs_fAV
def atF (s : Int × Option (List Int)) (k : List Int) : (Int × Option (List Int)) × Bool := ((s.1 - 1, if s.1 = 0 then some k else s.2), decide (s.1 - 1 ≥ 0))
theorem cutF_at {m : MkM} {B : Int} : ∀ (n : Nat) (c : List Int) (t : KS (Int × Option (List Int))), (0 ≤ t.s.1 ∧ t.s.1 ≤ B) → (cutF m atF n c t).2 = true → 0 ≤ (cutF m atF n c t).1.s.1 ∧ (cutF m atF n c t).1.s.1 ≤ B
  | 0, c, t, h, h2 => by
    simp only [cutF] at h2 ⊢
    split at h2
    · rename_i hk; rw [if_pos hk]; exact h
    · rename_i hk
      rw [if_neg hk]
      simp only [atF, decide_eq_true_eq] at h2 ⊢
      omega
  | n + 1, c, t, h, h2 => by
    rw [cutF_succ] at h2 ⊢
    have key : ∀ D, (stN (cutB m atF n c) t D).2 = true → 0 ≤ (stN (cutB m atF n c) t D).1.s.1 ∧ (stN (cutB m atF n c) t D).1.s.1 ≤ B := by
      intro D
      induction D with
      | zero => intro _; exact h
      | succ D ih =>
        intro hD
        by_cases hp : (stN (cutB m atF n c) t D).2 = true
        · rw [stN_succ hp] at hD ⊢
          have := ih hp
          generalize (stN (cutB m atF n c) t D).1 = u at *
          unfold cutB at hD ⊢
          split at hD
          · split at hD
            · rename_i h5 h6
              rw [if_pos h5, if_pos h6]
              exact cutF_at n _ _ this hD
            · rename_i h5 h6
              rw [if_pos h5, if_neg h6]; exact this
          · rename_i h5
            rw [if_neg h5]; exact this
        · rw [stN_stop (by simpa using hp) (D + 1) (by omega)] at hD
          exact absurd hD hp
    exact key _ h2
theorem stN_at {m : MkM} {B : Int} (n : Nat) (c : List Int) (t : KS (Int × Option (List Int))) (h : 0 ≤ t.s.1 ∧ t.s.1 ≤ B) : ∀ D, (stN (cutB m atF n c) t D).2 = true → 0 ≤ (stN (cutB m atF n c) t D).1.s.1 ∧ (stN (cutB m atF n c) t D).1.s.1 ≤ B
  | 0, _ => h
  | D + 1, hD => by
    by_cases hp : (stN (cutB m atF n c) t D).2 = true
    · have ih := stN_at n c t h D hp
      rw [stN_succ hp] at hD ⊢
      generalize (stN (cutB m atF n c) t D).1 = u at *
      unfold cutB at hD ⊢
      split at hD
      · split at hD
        · rename_i h5 h6
          rw [if_pos h5, if_pos h6]
          exact cutF_at n _ _ ih hD
        · rename_i h5 h6
          rw [if_pos h5, if_neg h6]; exact ih
      · rename_i h5
        rw [if_neg h5]; exact ih
    · rw [stN_stop (by simpa using hp) (D + 1) (by omega)] at hD
      exact absurd hD hp
theorem vis_K (c : List Int) (ver : Nat) (ys : List AV) (s : Int × Option (List Int)) (hc : c.length ≤ 6) (hy : ys.take c.length = c.map eI) (hs : 0 ≤ s.1 ∧ s.1 ≤ 1000000) :
    FnH Tryz.prog 131 [(1700000010, .row ver ⟨1, false⟩ true ys), (1500000003, .box 0 [eI s.1]), (1500000006, .box 0 [fAV s.2])] [.ref 1700000010 ver 0 c.length, .ptr 1500000003 0 0 0, .ptr 1500000006 0 0 0]
      (fun r m' => r = eB (atF s c).2 ∧ m' = [(1700000010, .row ver ⟨1, false⟩ true ys), (1500000003, .box 0 [eI (atF s c).1.1]), (1500000006, .box 0 [fAV (atF s c).1.2])]) := by
  refine FnH.of_vcZ 13 [.tmp 4] Tryz.func131 rfl rfl rfl rfl rfl (of_decide_eq_true rfl) ?_
  have hcl := c_CloneI c (by omega)
  have hyl : c.length ≤ ys.length := by
    have := congrArg List.length hy
    simp at this; omega
  obtain ⟨n, o⟩ := s
  dsimp only at hs
  rcases hz : (n == 0) with _ | _
  · have hn : ¬ n = 0 := beq_eq_false_iff_ne.1 hz
    have hr : atF (n, o) c = ((n - 1, o), decide (n - 1 ≥ 0)) := by rw [atF, if_neg hn]
    rw [hr]
    simp -dsimp -implicitDefEqProofs only [go_sem, ↓reduceIte, Nat.reduceEqDiff, Nat.reduceLT, Nat.reduceAdd, Nat.reduceMul, Nat.reduceLeDiff, Nat.le_refl, Int.natCast_zero, Int.toNat_natCast, Int.reduceToNat, hz]
    refine ⟨⟨by omega, by omega⟩, _, _, .refl, rfl, keepsM_of ?_ ?_⟩
    · simp -dsimp -implicitDefEqProofs only [go_sem, ↓reduceIte, Nat.reduceEqDiff, Nat.reduceLT, Nat.reduceAdd, Nat.reduceMul, Nat.reduceLeDiff, Nat.le_refl, Int.natCast_zero, Int.toNat_natCast, Int.reduceToNat]
    · simp -dsimp -implicitDefEqProofs only [go_sem, ↓reduceIte, Nat.reduceEqDiff, Nat.reduceLT, Nat.reduceAdd, Nat.reduceMul, Nat.reduceLeDiff, Nat.le_refl, Int.natCast_zero, Int.toNat_natCast, Int.reduceToNat]
      simp [labs, labsL, inLs]
  · have hn : n = 0 := beq_iff_eq.1 hz
    subst hn
    have hr : atF (0, o) c = ((0 - 1, some c), decide ((0 : Int) - 1 ≥ 0)) := by rw [atF, if_pos rfl]
    rw [hr]
    simp -dsimp -implicitDefEqProofs only [go_sem, ↓reduceIte, Nat.reduceEqDiff, Nat.reduceLT, Nat.reduceAdd, Nat.reduceMul, Nat.reduceLeDiff, Nat.le_refl, Int.natCast_zero, Int.toNat_natCast, Int.reduceToNat, hz, hy]
    refine ⟨hyl, ?_⟩
    (refine sCallT_one (hcl) ?_; try simp -dsimp -implicitDefEqProofs only [go_sem, ↓reduceIte, Nat.reduceEqDiff, Nat.reduceLT, Nat.reduceAdd, Nat.reduceMul, Nat.reduceLeDiff, Nat.le_refl, Int.natCast_zero, Int.toNat_natCast, Int.reduceToNat, *])
    refine ⟨⟨by omega, by omega⟩, _, _, .box 1500000006 0 0 9000 0 0 c.length ⟨1, false⟩ true [.ref 9000 0 0 c.length] (c.map eI) (by decide) (by simp -dsimp -implicitDefEqProofs only [go_sem, ↓reduceIte, Nat.reduceEqDiff, Nat.reduceLT, Nat.reduceAdd, Nat.reduceMul, Nat.reduceLeDiff, Nat.le_refl, Int.natCast_zero, Int.toNat_natCast, Int.reduceToNat]) rfl (by simp -dsimp -implicitDefEqProofs only [go_sem, ↓reduceIte, Nat.reduceEqDiff, Nat.reduceLT, Nat.reduceAdd, Nat.reduceMul, Nat.reduceLeDiff, Nat.le_refl, Int.natCast_zero, Int.toNat_natCast, Int.reduceToNat]) (by simp), rfl, keepsM_of ?_ ?_⟩
    · simp -dsimp -implicitDefEqProofs only [go_sem, ↓reduceIte, Nat.reduceEqDiff, Nat.reduceLT, Nat.reduceAdd, Nat.reduceMul, Nat.reduceLeDiff, Nat.le_refl, Int.natCast_zero, Int.toNat_natCast, Int.reduceToNat, fAV]
    · simp -dsimp -implicitDefEqProofs only [go_sem, ↓reduceIte, Nat.reduceEqDiff, Nat.reduceLT, Nat.reduceAdd, Nat.reduceMul, Nat.reduceLeDiff, Nat.le_refl, Int.natCast_zero, Int.toNat_natCast, Int.reduceToNat]
      simp [labs, labsL, inLs, fAV]
theorem cut_K (m : MkM) (hm : isMk m = true) : ∀ (n : Nat) (c : List Int) (t : KS (Int × Option (List Int))), (c.length : Int) + n = m.chambers → (∀ x ∈ c, 0 ≤ x ∧ x ≤ 7) → okZ c t → (0 ≤ t.s.1 ∧ t.s.1 ≤ 1000000) →
    FnH Tryz.prog 125 [(1700000008, .box 0 [.ref 1700000010 t.ver 0 c.length]), (1700000010, .row t.ver ⟨1, false⟩ true (t.zs.map eI)), (1700000004, .box 0 [eI m.chambers, eI m.depths, eI m.step, eI m.same, eI m.least]), (1700000007, .box 0 [.clo 131 [.ptr 1500000003 0 0 0, .ptr 1500000006 0 0 0]]), (1700000005, .box 0 [.val (.slice none 0 0)]), (1700000006, .box 0 [.val .nilFunc]), (1700000009, .box 0 [.clo 125 [.ptr 1700000008 0 0 0, .ptr 1700000004 0 0 0, .ptr 1700000007 0 0 0, .ptr 1700000005 0 0 0, .ptr 1700000006 0 0 0, .ptr 1700000009 0 0 0]]), (1500000003, .box 0 [eI t.s.1]), (1500000006, .box 0 [fAV t.s.2])] [eB false, .ptr 1700000008 0 0 0, .ptr 1700000004 0 0 0, .ptr 1700000007 0 0 0, .ptr 1700000005 0 0 0, .ptr 1700000006 0 0 0, .ptr 1700000009 0 0 0]
      (fun r m' => r = eB (cutF m atF n c t).2 ∧ m' = [(1700000008, .box 0 [.ref 1700000010 (cutF m atF n c t).1.ver 0 c.length]), (1700000010, .row (cutF m atF n c t).1.ver ⟨1, false⟩ true ((cutF m atF n c t).1.zs.map eI)), (1700000004, .box 0 [eI m.chambers, eI m.depths, eI m.step, eI m.same, eI m.least]), (1700000007, .box 0 [.clo 131 [.ptr 1500000003 0 0 0, .ptr 1500000006 0 0 0]]), (1700000005, .box 0 [.val (.slice none 0 0)]), (1700000006, .box 0 [.val .nilFunc]), (1700000009, .box 0 [.clo 125 [.ptr 1700000008 0 0 0, .ptr 1700000004 0 0 0, .ptr 1700000007 0 0 0, .ptr 1700000005 0 0 0, .ptr 1700000006 0 0 0, .ptr 1700000009 0 0 0]]), (1500000003, .box 0 [eI (cutF m atF n c t).1.s.1]), (1500000006, .box 0 [fAV (cutF m atF n c t).1.s.2])]) := by
  intro n
  have ⟨⟨hch1, hch2⟩, hd1, hd2⟩ := isMk_num hm
  induction n with
  | zero =>
    intro c t hl hc hz hs
    have hk : ((c.length : Int) == m.chambers) = true := beq_iff_eq.2 (by omega)
    have ht : List.take c.length (List.map eI t.zs) = List.map eI c := by rw [← List.map_take, hz.1]
    have hzl : c.length ≤ (List.map eI t.zs).length := by simpa using hz.2
    refine FnH.of_vc 91 [.tmp 8] Tryz.func125 rfl rfl rfl rfl rfl (of_decide_eq_true rfl) ?_
    simp -dsimp -implicitDefEqProofs only [go_sem, ↓reduceIte, Nat.reduceEqDiff, Nat.reduceLT, Nat.reduceAdd, Nat.reduceMul, Nat.reduceLeDiff, Nat.le_refl, Int.natCast_zero, Int.toNat_natCast, Int.reduceToNat, hk]
    refine Later.solo 8 mixed rfl ?_
    simp -dsimp -implicitDefEqProofs only [List.take_succ_cons, List.take_zero, List.drop_succ_cons, List.drop_zero]
    have hdif := c_different c (by omega)
    rcases hq : decide ((kindsTo c c.length : Int) < m.least) with _ | _
    · have hq' := of_decide_eq_false hq
      have hcut : cutF m atF 0 c t = (⟨t.ver, t.zs, (atF t.s c).1⟩, (atF t.s c).2) := by rw [cutF, if_neg hq']
      rw [hcut]
      simp -dsimp -implicitDefEqProofs only [go_sem, ↓reduceIte, Nat.reduceEqDiff, Nat.reduceLT, Nat.reduceAdd, Nat.reduceMul, Nat.reduceLeDiff, Nat.le_refl, Int.natCast_zero, Int.toNat_natCast, Int.reduceToNat, hk, ht, List.drop_zero]
      refine ⟨hz.2, ?_⟩
      (refine sCallX_one (hdif) ?_; try simp -dsimp -implicitDefEqProofs only [go_sem, ↓reduceIte, Nat.reduceEqDiff, Nat.reduceLT, Nat.reduceAdd, Nat.reduceMul, Nat.reduceLeDiff, Nat.le_refl, Int.natCast_zero, Int.toNat_natCast, Int.reduceToNat, *])
      refine ⟨by exact rfl, hz.2, ?_⟩
      refine sCallT_H (vis_K c t.ver (t.zs.map eI) t.s (by omega) ht (by omega)) ⟨⟨?_, ?_⟩, ?_, ?_⟩ ?_
      · simp -dsimp -implicitDefEqProofs only [go_sem, ↓reduceIte, Nat.reduceEqDiff, Nat.reduceLT, Nat.reduceAdd, Nat.reduceMul, Nat.reduceLeDiff, Nat.le_refl, Int.natCast_zero, Int.toNat_natCast, Int.reduceToNat]
      · simp -dsimp -implicitDefEqProofs only [go_sem, ↓reduceIte, Nat.reduceEqDiff, Nat.reduceLT, Nat.reduceAdd, Nat.reduceMul, Nat.reduceLeDiff, Nat.le_refl, Int.natCast_zero, Int.toNat_natCast, Int.reduceToNat]
        simp
      · simp -dsimp -implicitDefEqProofs only [go_sem, ↓reduceIte, Nat.reduceEqDiff, Nat.reduceLT, Nat.reduceAdd, Nat.reduceMul, Nat.reduceLeDiff, Nat.le_refl, Int.natCast_zero, Int.toNat_natCast, Int.reduceToNat]
      · simp -dsimp -implicitDefEqProofs only [go_sem, ↓reduceIte, Nat.reduceEqDiff, Nat.reduceLT, Nat.reduceAdd, Nat.reduceMul, Nat.reduceLeDiff, Nat.le_refl, Int.natCast_zero, Int.toNat_natCast, Int.reduceToNat]
        simp
      · rintro r m' ⟨hr, hm'⟩
        rw [hr, hm']
        simp -dsimp -implicitDefEqProofs only [go_sem, ↓reduceIte, Nat.reduceEqDiff, Nat.reduceLT, Nat.reduceAdd, Nat.reduceMul, Nat.reduceLeDiff, Nat.le_refl, Int.natCast_zero, Int.toNat_natCast, Int.reduceToNat]
        refine ⟨_, rfl, keepsM_of ?_ ?_⟩
        · simp -dsimp -implicitDefEqProofs only [go_sem, ↓reduceIte, Nat.reduceEqDiff, Nat.reduceLT, Nat.reduceAdd, Nat.reduceMul, Nat.reduceLeDiff, Nat.le_refl, Int.natCast_zero, Int.toNat_natCast, Int.reduceToNat]
        · simp -dsimp -implicitDefEqProofs only [go_sem, ↓reduceIte, Nat.reduceEqDiff, Nat.reduceLT, Nat.reduceAdd, Nat.reduceMul, Nat.reduceLeDiff, Nat.le_refl, Int.natCast_zero, Int.toNat_natCast, Int.reduceToNat]
          simp [labs, labsL, inLs]
    · have hq' := of_decide_eq_true hq
      have hcut : cutF m atF 0 c t = (t, true) := by rw [cutF, if_pos hq']
      rw [hcut]
      simp -dsimp -implicitDefEqProofs only [go_sem, ↓reduceIte, Nat.reduceEqDiff, Nat.reduceLT, Nat.reduceAdd, Nat.reduceMul, Nat.reduceLeDiff, Nat.le_refl, Int.natCast_zero, Int.toNat_natCast, Int.reduceToNat, hk, ht, List.drop_zero]
      refine ⟨hz.2, ?_⟩
      (refine sCallX_one (hdif) ?_; try simp -dsimp -implicitDefEqProofs only [go_sem, ↓reduceIte, Nat.reduceEqDiff, Nat.reduceLT, Nat.reduceAdd, Nat.reduceMul, Nat.reduceLeDiff, Nat.le_refl, Int.natCast_zero, Int.toNat_natCast, Int.reduceToNat, *])
      refine ⟨by exact rfl, _, rfl, keepsM_of ?_ ?_⟩
      · simp -dsimp -implicitDefEqProofs only [go_sem, ↓reduceIte, Nat.reduceEqDiff, Nat.reduceLT, Nat.reduceAdd, Nat.reduceMul, Nat.reduceLeDiff, Nat.le_refl, Int.natCast_zero, Int.toNat_natCast, Int.reduceToNat]
      · simp -dsimp -implicitDefEqProofs only [go_sem, ↓reduceIte, Nat.reduceEqDiff, Nat.reduceLT, Nat.reduceAdd, Nat.reduceMul, Nat.reduceLeDiff, Nat.le_refl, Int.natCast_zero, Int.toNat_natCast, Int.reduceToNat]
        simp [labs, labsL, inLs]
  | succ n ih =>
    intro c t hl hc hz hs
    have hk : ((c.length : Int) == m.chambers) = false := beq_eq_false_iff_ne.2 (by omega)
    refine FnH.of_vc 91 [.tmp 8] Tryz.func125 rfl rfl rfl rfl rfl (of_decide_eq_true rfl) ?_
    simp -dsimp -implicitDefEqProofs only [go_sem, ↓reduceIte, Nat.reduceEqDiff, Nat.reduceLT, Nat.reduceAdd, Nat.reduceMul, Nat.reduceLeDiff, Nat.le_refl, Int.natCast_zero, Int.toNat_natCast, Int.reduceToNat, hk]
    refine Later.up [0, 1, 2, 5, 6, 9, 10] [47, 61, 69, 70, 72, 84] [1700000008, 1700000010, 1500000003, 1500000006] m.depths.toNat (fun i => (stN (cutB m atF n c) t i).2 = true) (fun i => [(11, eI i)]) (fun i => [(1700000008, .box 0 [.ref 1700000010 (stN (cutB m atF n c) t i).1.ver 0 c.length]), (1700000010, .row (stN (cutB m atF n c) t i).1.ver ⟨1, false⟩ true ((stN (cutB m atF n c) t i).1.zs.map eI)), (1500000003, .box 0 [eI (stN (cutB m atF n c) t i).1.s.1]), (1500000006, .box 0 [fAV (stN (cutB m atF n c) t i).1.s.2])]) rfl ?_ rfl (fun i hi hI => ?_) (fun hI => ?_)
    · simp -dsimp -implicitDefEqProofs only [go_sem, ↓reduceIte, Nat.reduceEqDiff, Nat.reduceLT, Nat.reduceAdd, Nat.reduceMul, Nat.reduceLeDiff, Nat.le_refl, Int.natCast_zero, Int.toNat_natCast, Int.reduceToNat]
      simp [stN, refV1_fAV, leaf_fAV]
    · have hu : okZ c (stN (cutB m atF n c) t i).1 := stN_okZ hz i
      have hbounds := stN_at n c t hs i hI
      have hlt : decide ((i : Int) < m.depths) = true := decide_eq_true (by omega)
      have hS := stN_succ hI
      have hfin : (cutB m atF n c i (stN (cutB m atF n c) t i).1).2 = false → cutF m atF (n + 1) c t = cutB m atF n c i (stN (cutB m atF n c) t i).1 := fun h => by
        rw [← hS] at h ⊢
        rw [cutF_succ, stN_stop h m.depths.toNat (by omega)]
      rw [hS]
      clear hS hI
      generalize (stN (cutB m atF n c) t i).1 = u at *
      obtain ⟨hu1, hu2⟩ := hu
      have htk : List.take c.length (List.map eI u.zs) = List.map eI c := by rw [← List.map_take, hu1]
      have hcl : c.length ≤ 6 := by omega
      have hih := ih (c ++ [(i : Int)]) ⟨u.ver + 1, c ++ [(i : Int)], u.s⟩ (by simp; omega) (fun x hx => by
        rcases List.mem_append.1 hx with h | h
        · exact hc x h
        · simp at h; omega) ⟨List.take_length, Nat.le_refl _⟩ hbounds
      simp only [List.length_append, List.length_cons, List.length_nil, Nat.zero_add] at hih
      have hrun := c_sameRun (c ++ [(i : Int)]) (by simp) (by simp; omega)
      simp only [List.length_append, List.length_cons, List.length_nil, Nat.zero_add, Nat.add_sub_cancel] at hrun
      have hmap : List.map eI c ++ [eI (i : Int)] = List.map eI (c ++ [(i : Int)]) := by simp
      have hstep : stepOk m c i = (c.isEmpty || !decide (absN ((i : Int) - c.getD (c.length - 1) 0) > m.step)) := by
        unfold stepOk
        congr 1
        by_cases h : absN ((i : Int) - c.getD (c.length - 1) 0) ≤ m.step
        · rw [decide_eq_true h, decide_eq_false (by omega)]; rfl
        · rw [decide_eq_false h, decide_eq_true (by omega)]; rfl
      have hrunok : runOk m c i = !decide ((runAt (c ++ [(i : Int)]) c.length : Int) > m.same) := by
        unfold runOk
        by_cases h : (runAt (c ++ [(i : Int)]) c.length : Int) ≤ m.same
        · rw [decide_eq_true h, decide_eq_false (by omega)]; rfl
        · rw [decide_eq_false h, decide_eq_true (by omega)]; rfl
      simp -dsimp -implicitDefEqProofs only [pick_nil, pick_cons, look_nil, look_cons, dropB_nil, dropB_cons, inD_nil, inD_cons, inE_nil, inE_cons, or_t_l, or_f_l, Nat.reduceBEq, Nat.reduceDiv, Nat.reduceAdd, beq_self_eq_true, Bool.false_eq_true, Bool.or_false, ↓reduceIte, Nat.reduceEqDiff, List.cons_append, List.nil_append]
      simp -dsimp -implicitDefEqProofs only [go_sem, ↓reduceIte, Nat.reduceEqDiff, Nat.reduceLT, Nat.reduceAdd, Nat.reduceMul, Nat.reduceLeDiff, Nat.le_refl, Int.natCast_zero, Int.toNat_natCast, Int.reduceToNat, hlt]
      refine Later.draw mixed rfl ?_
      have hfn : fnRes Tryz.prog 125 .neq = some false := rfl
      rcases hk0 : decide ((c.length : Int) > 0) with _ | _
      · have hce : c = [] := by
          have := of_decide_eq_false hk0
          exact List.eq_nil_of_length_eq_zero (by omega)
        have hsT : stepOk m c i = true := by rw [hce]; rfl
        clear hce
        simp -dsimp -implicitDefEqProofs only [go_sem, ↓reduceIte, Nat.reduceEqDiff, Nat.reduceLT, Nat.reduceAdd, Nat.reduceMul, Nat.reduceLeDiff, Nat.le_refl, Int.natCast_zero, Int.toNat_natCast, Int.reduceToNat, hfn, hk0]
        refine ⟨by exact rfl, hu2, by omega, ?_⟩
        refine Later.solo 13 mixed rfl ?_
        simp -dsimp -implicitDefEqProofs only [List.take_succ_cons, List.take_zero, List.drop_succ_cons, List.drop_zero]
        have htl : List.take (c.length + 1) (List.map eI (c ++ [(i : Int)])) = List.map eI (c ++ [(i : Int)]) := List.take_of_length_le (by simp)
        rcases hq2 : decide ((runAt (c ++ [(i : Int)]) c.length : Int) > m.same) with _ | _
        · have hcB : cutB m atF n c i u = cutF m atF n (c ++ [(i : Int)]) ⟨u.ver + 1, c ++ [(i : Int)], u.s⟩ := by rw [cutB, if_pos hsT, if_pos (by rw [hrunok, hq2]; rfl), hu1]
          rw [hcB] at hfin ⊢
          clear hcB
          generalize cutF m atF n (c ++ [(i : Int)]) ⟨u.ver + 1, c ++ [(i : Int)], u.s⟩ = w at *
          obtain ⟨w, b⟩ := w
          simp -dsimp -implicitDefEqProofs only [go_sem, ↓reduceIte, Nat.reduceEqDiff, Nat.reduceLT, Nat.reduceAdd, Nat.reduceMul, Nat.reduceLeDiff, Nat.le_refl, Int.natCast_zero, Int.toNat_natCast, Int.reduceToNat, htk, hmap, htl]
          (refine sCallX_one (hrun) ?_; try simp -dsimp -implicitDefEqProofs only [go_sem, ↓reduceIte, Nat.reduceEqDiff, Nat.reduceLT, Nat.reduceAdd, Nat.reduceMul, Nat.reduceLeDiff, Nat.le_refl, Int.natCast_zero, Int.toNat_natCast, Int.reduceToNat, *])
          refine ⟨by exact rfl, ?_⟩
          refine sCallT_H hih ⟨⟨?_, ?_⟩, ?_, ?_⟩ ?_
          · simp -dsimp -implicitDefEqProofs only [go_sem, ↓reduceIte, Nat.reduceEqDiff, Nat.reduceLT, Nat.reduceAdd, Nat.reduceMul, Nat.reduceLeDiff, Nat.le_refl, Int.natCast_zero, Int.toNat_natCast, Int.reduceToNat]
          · simp -dsimp -implicitDefEqProofs only [go_sem, ↓reduceIte, Nat.reduceEqDiff, Nat.reduceLT, Nat.reduceAdd, Nat.reduceMul, Nat.reduceLeDiff, Nat.le_refl, Int.natCast_zero, Int.toNat_natCast, Int.reduceToNat]
            simp [labs, labsL, inLs]
          · simp -dsimp -implicitDefEqProofs only [go_sem, ↓reduceIte, Nat.reduceEqDiff, Nat.reduceLT, Nat.reduceAdd, Nat.reduceMul, Nat.reduceLeDiff, Nat.le_refl, Int.natCast_zero, Int.toNat_natCast, Int.reduceToNat]
          · simp -dsimp -implicitDefEqProofs only [go_sem, ↓reduceIte, Nat.reduceEqDiff, Nat.reduceLT, Nat.reduceAdd, Nat.reduceMul, Nat.reduceLeDiff, Nat.le_refl, Int.natCast_zero, Int.toNat_natCast, Int.reduceToNat]
            simp [labs, labsL, inLs]
          · rintro r m' ⟨hr, hm'⟩
            rw [hr, hm']
            clear hr hm'
            cases b with
            | false =>
              rw [hfin rfl]
              simp -dsimp -implicitDefEqProofs only [go_sem, ↓reduceIte, Nat.reduceEqDiff, Nat.reduceLT, Nat.reduceAdd, Nat.reduceMul, Nat.reduceLeDiff, Nat.le_refl, Int.natCast_zero, Int.toNat_natCast, Int.reduceToNat]
              refine ⟨by omega, _, rfl, keepsM_of ?_ ?_⟩
              · simp -dsimp -implicitDefEqProofs only [go_sem, ↓reduceIte, Nat.reduceEqDiff, Nat.reduceLT, Nat.reduceAdd, Nat.reduceMul, Nat.reduceLeDiff, Nat.le_refl, Int.natCast_zero, Int.toNat_natCast, Int.reduceToNat]
              · simp -dsimp -implicitDefEqProofs only [go_sem, ↓reduceIte, Nat.reduceEqDiff, Nat.reduceLT, Nat.reduceAdd, Nat.reduceMul, Nat.reduceLeDiff, Nat.le_refl, Int.natCast_zero, Int.toNat_natCast, Int.reduceToNat]
                simp [labs, labsL, inLs]
            | true =>
              simp -dsimp -implicitDefEqProofs only [go_sem, ↓reduceIte, Nat.reduceEqDiff, Nat.reduceLT, Nat.reduceAdd, Nat.reduceMul, Nat.reduceLeDiff, Nat.le_refl, Int.natCast_zero, Int.toNat_natCast, Int.reduceToNat]
              exact ⟨by omega, ⟨by omega, by omega⟩, by simp⟩
        · have hcB : cutB m atF n c i u = (⟨u.ver + 1, c ++ [(i : Int)], u.s⟩, true) := by rw [cutB, if_pos hsT, if_neg (by rw [hrunok, hq2]; exact fun h => by cases h), hu1]
          rw [hcB]
          clear hcB hfin
          simp -dsimp -implicitDefEqProofs only [go_sem, ↓reduceIte, Nat.reduceEqDiff, Nat.reduceLT, Nat.reduceAdd, Nat.reduceMul, Nat.reduceLeDiff, Nat.le_refl, Int.natCast_zero, Int.toNat_natCast, Int.reduceToNat, htk, hmap, htl]
          (refine sCallX_one (hrun) ?_; try simp -dsimp -implicitDefEqProofs only [go_sem, ↓reduceIte, Nat.reduceEqDiff, Nat.reduceLT, Nat.reduceAdd, Nat.reduceMul, Nat.reduceLeDiff, Nat.le_refl, Int.natCast_zero, Int.toNat_natCast, Int.reduceToNat, *])
          exact ⟨by exact rfl, by omega, ⟨by omega, by omega⟩, by simp⟩
      · have hkp := of_decide_eq_true hk0
        have hla : c.getD (c.length - 1) 0 = c[c.length - 1] := by simp [List.getD_eq_getElem?_getD, show c.length - 1 < c.length by omega]
        have hlast : (List.map eI u.zs)[c.length - 1]? = some (eI (c.getD (c.length - 1) 0)) := by
          have h1 : (List.take c.length (List.map eI u.zs))[c.length - 1]? = (List.map eI u.zs)[c.length - 1]? := by rw [List.getElem?_take]; simp; omega
          rw [← h1, htk, hla]; simp [show c.length - 1 < c.length by omega]
        have hlb := hc _ (List.getElem_mem (show c.length - 1 < c.length by omega))
        rw [← hla] at hlb
        generalize c.getD (c.length - 1) 0 = z at *
        clear hla
        have e1 : ((c.length : Int) - 1).toNat = c.length - 1 := by omega
        have habs := c_absolute ((i : Int) - z) (by omega)
        rcases hq : decide (absN ((i : Int) - z) > m.step) with _ | _
        · have hsT : stepOk m c i = true := by rw [hstep, hq]; simp
          simp -dsimp -implicitDefEqProofs only [go_sem, ↓reduceIte, Nat.reduceEqDiff, Nat.reduceLT, Nat.reduceAdd, Nat.reduceMul, Nat.reduceLeDiff, Nat.le_refl, Int.natCast_zero, Int.toNat_natCast, Int.reduceToNat, hfn, hk0, e1, hlast]
          refine ⟨⟨by omega, by omega⟩, ⟨by omega, by omega⟩, ⟨by omega, by omega⟩, ?_⟩
          (refine sCallX_one (habs) ?_; try simp -dsimp -implicitDefEqProofs only [go_sem, ↓reduceIte, Nat.reduceEqDiff, Nat.reduceLT, Nat.reduceAdd, Nat.reduceMul, Nat.reduceLeDiff, Nat.le_refl, Int.natCast_zero, Int.toNat_natCast, Int.reduceToNat, *])
          refine ⟨by exact rfl, by omega, ?_⟩
          refine Later.solo 13 mixed rfl ?_
          simp -dsimp -implicitDefEqProofs only [List.take_succ_cons, List.take_zero, List.drop_succ_cons, List.drop_zero]
          have htl : List.take (c.length + 1) (List.map eI (c ++ [(i : Int)])) = List.map eI (c ++ [(i : Int)]) := List.take_of_length_le (by simp)
          rcases hq2 : decide ((runAt (c ++ [(i : Int)]) c.length : Int) > m.same) with _ | _
          · have hcB : cutB m atF n c i u = cutF m atF n (c ++ [(i : Int)]) ⟨u.ver + 1, c ++ [(i : Int)], u.s⟩ := by rw [cutB, if_pos hsT, if_pos (by rw [hrunok, hq2]; rfl), hu1]
            rw [hcB] at hfin ⊢
            clear hcB
            generalize cutF m atF n (c ++ [(i : Int)]) ⟨u.ver + 1, c ++ [(i : Int)], u.s⟩ = w at *
            obtain ⟨w, b⟩ := w
            simp -dsimp -implicitDefEqProofs only [go_sem, ↓reduceIte, Nat.reduceEqDiff, Nat.reduceLT, Nat.reduceAdd, Nat.reduceMul, Nat.reduceLeDiff, Nat.le_refl, Int.natCast_zero, Int.toNat_natCast, Int.reduceToNat, htk, hmap, htl]
            (refine sCallX_one (hrun) ?_; try simp -dsimp -implicitDefEqProofs only [go_sem, ↓reduceIte, Nat.reduceEqDiff, Nat.reduceLT, Nat.reduceAdd, Nat.reduceMul, Nat.reduceLeDiff, Nat.le_refl, Int.natCast_zero, Int.toNat_natCast, Int.reduceToNat, *])
            refine ⟨by exact rfl, ?_⟩
            refine sCallT_H hih ⟨⟨?_, ?_⟩, ?_, ?_⟩ ?_
            · simp -dsimp -implicitDefEqProofs only [go_sem, ↓reduceIte, Nat.reduceEqDiff, Nat.reduceLT, Nat.reduceAdd, Nat.reduceMul, Nat.reduceLeDiff, Nat.le_refl, Int.natCast_zero, Int.toNat_natCast, Int.reduceToNat]
            · simp -dsimp -implicitDefEqProofs only [go_sem, ↓reduceIte, Nat.reduceEqDiff, Nat.reduceLT, Nat.reduceAdd, Nat.reduceMul, Nat.reduceLeDiff, Nat.le_refl, Int.natCast_zero, Int.toNat_natCast, Int.reduceToNat]
              simp [labs, labsL, inLs]
            · simp -dsimp -implicitDefEqProofs only [go_sem, ↓reduceIte, Nat.reduceEqDiff, Nat.reduceLT, Nat.reduceAdd, Nat.reduceMul, Nat.reduceLeDiff, Nat.le_refl, Int.natCast_zero, Int.toNat_natCast, Int.reduceToNat]
            · simp -dsimp -implicitDefEqProofs only [go_sem, ↓reduceIte, Nat.reduceEqDiff, Nat.reduceLT, Nat.reduceAdd, Nat.reduceMul, Nat.reduceLeDiff, Nat.le_refl, Int.natCast_zero, Int.toNat_natCast, Int.reduceToNat]
              simp [labs, labsL, inLs]
            · rintro r m' ⟨hr, hm'⟩
              rw [hr, hm']
              clear hr hm'
              cases b with
              | false =>
                rw [hfin rfl]
                simp -dsimp -implicitDefEqProofs only [go_sem, ↓reduceIte, Nat.reduceEqDiff, Nat.reduceLT, Nat.reduceAdd, Nat.reduceMul, Nat.reduceLeDiff, Nat.le_refl, Int.natCast_zero, Int.toNat_natCast, Int.reduceToNat]
                refine ⟨by omega, _, rfl, keepsM_of ?_ ?_⟩
                · simp -dsimp -implicitDefEqProofs only [go_sem, ↓reduceIte, Nat.reduceEqDiff, Nat.reduceLT, Nat.reduceAdd, Nat.reduceMul, Nat.reduceLeDiff, Nat.le_refl, Int.natCast_zero, Int.toNat_natCast, Int.reduceToNat]
                · simp -dsimp -implicitDefEqProofs only [go_sem, ↓reduceIte, Nat.reduceEqDiff, Nat.reduceLT, Nat.reduceAdd, Nat.reduceMul, Nat.reduceLeDiff, Nat.le_refl, Int.natCast_zero, Int.toNat_natCast, Int.reduceToNat]
                  simp [labs, labsL, inLs]
              | true =>
                simp -dsimp -implicitDefEqProofs only [go_sem, ↓reduceIte, Nat.reduceEqDiff, Nat.reduceLT, Nat.reduceAdd, Nat.reduceMul, Nat.reduceLeDiff, Nat.le_refl, Int.natCast_zero, Int.toNat_natCast, Int.reduceToNat]
                exact ⟨by omega, ⟨by omega, by omega⟩, by simp⟩
          · have hcB : cutB m atF n c i u = (⟨u.ver + 1, c ++ [(i : Int)], u.s⟩, true) := by rw [cutB, if_pos hsT, if_neg (by rw [hrunok, hq2]; exact fun h => by cases h), hu1]
            rw [hcB]
            clear hcB hfin
            simp -dsimp -implicitDefEqProofs only [go_sem, ↓reduceIte, Nat.reduceEqDiff, Nat.reduceLT, Nat.reduceAdd, Nat.reduceMul, Nat.reduceLeDiff, Nat.le_refl, Int.natCast_zero, Int.toNat_natCast, Int.reduceToNat, htk, hmap, htl]
            (refine sCallX_one (hrun) ?_; try simp -dsimp -implicitDefEqProofs only [go_sem, ↓reduceIte, Nat.reduceEqDiff, Nat.reduceLT, Nat.reduceAdd, Nat.reduceMul, Nat.reduceLeDiff, Nat.le_refl, Int.natCast_zero, Int.toNat_natCast, Int.reduceToNat, *])
            exact ⟨by exact rfl, by omega, ⟨by omega, by omega⟩, by simp⟩
        · have hsF : stepOk m c i = false := by
            rw [hstep, hq]
            cases c with
            | nil => simp at hkp
            | cons => rfl
          have hcB : cutB m atF n c i u = (u, true) := by rw [cutB, if_neg (by rw [hsF]; exact fun h => by cases h)]
          rw [hcB]
          clear hcB hfin
          simp -dsimp -implicitDefEqProofs only [go_sem, ↓reduceIte, Nat.reduceEqDiff, Nat.reduceLT, Nat.reduceAdd, Nat.reduceMul, Nat.reduceLeDiff, Nat.le_refl, Int.natCast_zero, Int.toNat_natCast, Int.reduceToNat, hfn, hk0, e1, hlast]
          refine ⟨⟨by omega, by omega⟩, ⟨by omega, by omega⟩, ⟨by omega, by omega⟩, ?_⟩
          (refine sCallX_one (habs) ?_; try simp -dsimp -implicitDefEqProofs only [go_sem, ↓reduceIte, Nat.reduceEqDiff, Nat.reduceLT, Nat.reduceAdd, Nat.reduceMul, Nat.reduceLeDiff, Nat.le_refl, Int.natCast_zero, Int.toNat_natCast, Int.reduceToNat, *])
          exact ⟨by exact rfl, ⟨by omega, by omega⟩, by simp⟩
    · simp -dsimp -implicitDefEqProofs only [pick_nil, pick_cons, look_nil, look_cons, dropB_nil, dropB_cons, inD_nil, inD_cons, inE_nil, inE_cons, or_t_l, or_f_l, Nat.reduceBEq, Nat.reduceDiv, Nat.reduceAdd, beq_self_eq_true, Bool.false_eq_true, Bool.or_false, ↓reduceIte, Nat.reduceEqDiff, List.cons_append, List.nil_append]
      have hlt : decide (((m.depths.toNat : Nat) : Int) < m.depths) = false := decide_eq_false (by omega)
      simp -dsimp -implicitDefEqProofs only [go_sem, ↓reduceIte, Nat.reduceEqDiff, Nat.reduceLT, Nat.reduceAdd, Nat.reduceMul, Nat.reduceLeDiff, Nat.le_refl, Int.natCast_zero, Int.toNat_natCast, Int.reduceToNat, hlt]
      rw [cutF_succ]
      refine ⟨_, ⟨by rw [hI], rfl⟩, keepsM_of ?_ ?_⟩
      · simp -dsimp -implicitDefEqProofs only [go_sem, ↓reduceIte, Nat.reduceEqDiff, Nat.reduceLT, Nat.reduceAdd, Nat.reduceMul, Nat.reduceLeDiff, Nat.le_refl, Int.natCast_zero, Int.toNat_natCast, Int.reduceToNat]
      · simp -dsimp -implicitDefEqProofs only [go_sem, ↓reduceIte, Nat.reduceEqDiff, Nat.reduceLT, Nat.reduceAdd, Nat.reduceMul, Nat.reduceLeDiff, Nat.le_refl, Int.natCast_zero, Int.toNat_natCast, Int.reduceToNat]
        simp [labs, labsL, inLs]
end Go.Vc


/-
  Contracts: the key at a rank.
-/
set_option linter.unusedVariables false
set_option linter.unusedSimpArgs false
set_option linter.unnecessarySimpa false
namespace Go.Vc
open Go.Proofs
set_option maxRecDepth 100000
set_option maxHeartbeats 4000000
theorem visit_at : ∀ (ks : List (List Int)) (r : Nat) (o : Option (List Int)) (h : r < ks.length), visitL atF ((r : Int), o) ks = ((-1, some ks[r]), false)
  | k :: ks, 0, o, _ => by simp [visitL, atF]
  | k :: ks, r + 1, o, h => by
    have e : atF (((r + 1 : Nat) : Int), o) k = (((r : Int), o), true) := by
      have h1 : ¬ ((r + 1 : Nat) : Int) = 0 := by omega
      have h2 : ((r + 1 : Nat) : Int) - 1 = (r : Int) := by omega
      rw [atF, if_neg h1, h2, decide_eq_true (show (r : Int) ≥ 0 by omega)]
    rw [visitL, e]
    show visitL atF ((r : Int), o) ks = _
    rw [visit_at ks r o (by simpa using h)]
    rfl
theorem c_sKeyAt (m : MkM) (hm : isMk m = true) (r : Nat) (h : r < (allK m).length) : Fn Tryz.prog 62 [eMk m, eI r] true (· = .tup [eIs (allK m)[r], eI 0]) := by
  refine Fn.of_vcN 46 [.tmp 4, .tmp 5] Tryz.func62 rfl rfl rfl rfl rfl (of_decide_eq_true rfl) ?_
  have ⟨⟨hch1, hch2⟩, hd1, hd2⟩ := isMk_num hm
  obtain ⟨hk, hr⟩ := index_rank (by omega) h
  have hcn0 := c_l02Count m hm m.chambers.toNat [] (by simp; omega) (fun x hx => by cases hx)
  rw [allK_cnt] at hcn0
  have hlen8 : (allK m).length ≤ 8 ^ 6 := Nat.le_trans (keysFrom_len m hm _ _) (Nat.pow_le_pow_right (by decide) (by omega))
  have hge : decide ((r : Int) ≥ ((allK m).length : Int)) = false := decide_eq_false (by omega)
  have hlt0 : decide ((r : Int) < 0) = false := decide_eq_false (by omega)
  have hcn := hcn0.subs (args' := [eMk m, eNil]) (.cons (.refl _) (.cons (.nil _) .nil))
  clear hcn0
  generalize (allK m)[r] = K at *
  generalize (allK m).length = AL at *
  have hl := hk.len
  have hel := hk.el
  simp -dsimp -implicitDefEqProofs only [go_sem, ↓reduceIte, Nat.reduceEqDiff, Nat.reduceLT, Nat.reduceAdd, Nat.reduceMul, Nat.reduceLeDiff, Nat.le_refl, Int.natCast_zero, Int.toNat_natCast, Int.reduceToNat]
  refine sCallT_one (c_sIsMaker m) ?_
  simp -dsimp -implicitDefEqProofs only [go_sem, ↓reduceIte, Nat.reduceEqDiff, Nat.reduceLT, Nat.reduceAdd, Nat.reduceMul, Nat.reduceLeDiff, Nat.le_refl, Int.natCast_zero, Int.toNat_natCast, Int.reduceToNat, hm, hlt0]
  refine sCallT_one hcn ?_
  simp -dsimp -implicitDefEqProofs only [go_sem, ↓reduceIte, Nat.reduceEqDiff, Nat.reduceLT, Nat.reduceAdd, Nat.reduceMul, Nat.reduceLeDiff, Nat.le_refl, Int.natCast_zero, Int.toNat_natCast, Int.reduceToNat, hge]
  refine Later.up [2] [22, 28, 30, 31, 32, 43, 44] [20] K.length (fun _ => True) (fun i => [(1, eI ((r - rankTo m K i : Nat) : Int)), (6, .ref 20 0 0 i)]) (fun i => [(20, .row 0 ⟨1, false⟩ true ((K.take i).map eI))]) trivial ?_ rfl (fun i hi _ => ?_) (fun _ => ?_)
  · simp -dsimp -implicitDefEqProofs only [go_sem, ↓reduceIte, Nat.reduceEqDiff, Nat.reduceLT, Nat.reduceAdd, Nat.reduceMul, Nat.reduceLeDiff, Nat.le_refl, Int.natCast_zero, Int.toNat_natCast, Int.reduceToNat, rankTo, Nat.sub_zero, List.take_zero, List.map_nil]
  · have hlt : decide ((i : Int) < m.chambers) = true := decide_eq_true (by omega)
    obtain ⟨k1, k2, k3⟩ := rank_left hk hi
    rw [hr] at k2 k3
    have hx := hel K[i] (List.getElem_mem hi)
    have hgd : K.getD i 0 = K[i] := by simp [List.getD_eq_getElem?_getD, hi]
    have hsn := take_app hi
    rw [hgd] at k1 hsn
    have hlen : (K.take i).length = i := by simp; omega
    rw [hsn] at k3 ⊢
    have hmono := fun d E => cntTo_mono m (K.length - (i + 1)) (K.take i) d E
    have hsucc := fun d => cntTo_succ m (K.length - (i + 1)) (K.take i) d
    have hcb := fun d => cnt_le m hm (K.length - (i + 1)) (K.take i ++ [(d : Int)])
    have hp : 8 ^ (K.length - (i + 1)) ≤ 8 ^ 5 := Nat.pow_le_pow_right (by decide) (by omega)
    have hcn2 := fun (d : Nat) (hd : d ≤ 7) => c_l02Count m hm (K.length - (i + 1)) (K.take i ++ [(d : Int)]) (by simp; omega) (fun x hx2 => by
        rcases List.mem_append.1 hx2 with h | h
        · have := hel x (List.mem_of_mem_take h); omega
        · simp at h; omega)
    have hown := c_l01Own (K.take i) (by simp; omega)
    have hz0 : cntTo m (K.length - (i + 1)) (K.take i) 0 = 0 := rfl
    generalize hT : K.take i = T at *
    generalize K[i] = z at *
    generalize K.length - (i + 1) = n at *
    generalize rankTo m K (i + 1) = R1 at *
    generalize rankTo m K i = R at *
    have htl2 : List.take i (List.map eI T) = List.map eI T := List.take_of_length_le (by simp; omega)
    simp -dsimp -implicitDefEqProofs only [pick_nil, pick_cons, look_nil, look_cons, dropB_nil, dropB_cons, inD_nil, inD_cons, inE_nil, inE_cons, or_t_l, or_f_l, Nat.reduceBEq, Nat.reduceDiv, Nat.reduceAdd, beq_self_eq_true, Bool.false_eq_true, Bool.or_false, ↓reduceIte, Nat.reduceEqDiff, List.cons_append, List.nil_append]
    simp -dsimp -implicitDefEqProofs only [go_sem, ↓reduceIte, Nat.reduceEqDiff, Nat.reduceLT, Nat.reduceAdd, Nat.reduceMul, Nat.reduceLeDiff, Nat.le_refl, Int.natCast_zero, Int.toNat_natCast, Int.reduceToNat, hlt]
    refine Later.up [2, 6] [28, 30, 31, 32] [] z.toNat (fun _ => True) (fun d => [(1, eI ((r - R - cntTo m n T d : Nat) : Int)), (7, eI d)]) (fun _ => []) trivial ?_ rfl (fun d hd _ => ?_) (fun _ => ?_)
    · simp -dsimp -implicitDefEqProofs only [go_sem, ↓reduceIte, Nat.reduceEqDiff, Nat.reduceLT, Nat.reduceAdd, Nat.reduceMul, Nat.reduceLeDiff, Nat.le_refl, Int.natCast_zero, Int.toNat_natCast, Int.reduceToNat, hz0, Nat.sub_zero]
    · have q := hcn2 d (by omega)
      have e1 := hsucc d
      have e2 := hmono (d + 1) (z.toNat - (d + 1))
      rw [show d + 1 + (z.toNat - (d + 1)) = z.toNat by omega] at e2
      have e3 := hcb d
      have hmap : List.map eI T ++ [eI (d : Int)] = List.map eI (T ++ [(d : Int)]) := by simp
      have htl : List.take (T.length + 1) (List.map eI (T ++ [(d : Int)])) = List.map eI (T ++ [(d : Int)]) := List.take_of_length_le (by simp)
      have hlt2 : decide (((r - R - cntTo m n T d : Nat) : Int) < ((cnt m n (T ++ [(d : Int)]) : Nat) : Int)) = false := decide_eq_false (by omega)
      rw [e1]
      generalize cntTo m n T d = A at *
      generalize cnt m n (T ++ [(d : Int)]) = Bn at *
      simp -dsimp -implicitDefEqProofs only [pick_nil, pick_cons, look_nil, look_cons, dropB_nil, dropB_cons, inD_nil, inD_cons, inE_nil, inE_cons, or_t_l, or_f_l, Nat.reduceBEq, Nat.reduceDiv, Nat.reduceAdd, beq_self_eq_true, Bool.false_eq_true, Bool.or_false, ↓reduceIte, Nat.reduceEqDiff, List.cons_append, List.nil_append]
      simp -dsimp -implicitDefEqProofs only [go_sem, ↓reduceIte, Nat.reduceEqDiff, Nat.reduceLT, Nat.reduceAdd, Nat.reduceMul, Nat.reduceLeDiff, Nat.le_refl, Int.natCast_zero, Int.toNat_natCast, Int.reduceToNat]
      refine Later.draw mixed rfl ?_
      simp -dsimp -implicitDefEqProofs only [go_sem, ↓reduceIte, Nat.reduceEqDiff, Nat.reduceLT, Nat.reduceAdd, Nat.reduceMul, Nat.reduceLeDiff, Nat.le_refl, Int.natCast_zero, Int.toNat_natCast, Int.reduceToNat, htl2]
      ((repeat' (with_reducible refine And.intro ?_ ?_)); all_goals try (first | omega | (refine ⟨?_, ?_⟩ <;> omega) | (exact rfl)))
      refine sCallX_one hown ?_
      simp -dsimp -implicitDefEqProofs only [go_sem, ↓reduceIte, Nat.reduceEqDiff, Nat.reduceLT, Nat.reduceAdd, Nat.reduceMul, Nat.reduceLeDiff, Nat.le_refl, Int.natCast_zero, Int.toNat_natCast, Int.reduceToNat, hmap, htl]
      ((repeat' (with_reducible refine And.intro ?_ ?_)); all_goals try (first | omega | (refine ⟨?_, ?_⟩ <;> omega) | (exact rfl)))
      refine sCallX_one q ?_
      simp -dsimp -implicitDefEqProofs only [go_sem, ↓reduceIte, Nat.reduceEqDiff, Nat.reduceLT, Nat.reduceAdd, Nat.reduceMul, Nat.reduceLeDiff, Nat.le_refl, Int.natCast_zero, Int.toNat_natCast, Int.reduceToNat, hlt2]
      ((repeat' (with_reducible refine And.intro ?_ ?_)); all_goals try (first | omega | (refine ⟨?_, ?_⟩ <;> omega) | (exact rfl)))
      all_goals (congr 1; omega)
    · have q := hcn2 z.toNat (by omega)
      have e3 := hcb z.toNat
      have hmap : List.map eI T ++ [eI (z.toNat : Int)] = List.map eI (T ++ [(z.toNat : Int)]) := by simp
      have htl : List.take (T.length + 1) (List.map eI (T ++ [(z.toNat : Int)])) = List.map eI (T ++ [(z.toNat : Int)]) := List.take_of_length_le (by simp)
      have hz1 : ((z.toNat : Nat) : Int) = z := by omega
      rw [hz1] at q e3 hmap htl
      have hlt2 : decide (((r - R - cntTo m n T z.toNat : Nat) : Int) < ((cnt m n (T ++ [z]) : Nat) : Int)) = true := decide_eq_true (by omega)
      simp -dsimp -implicitDefEqProofs only [pick_nil, pick_cons, look_nil, look_cons, dropB_nil, dropB_cons, inD_nil, inD_cons, inE_nil, inE_cons, or_t_l, or_f_l, Nat.reduceBEq, Nat.reduceDiv, Nat.reduceAdd, beq_self_eq_true, Bool.false_eq_true, Bool.or_false, ↓reduceIte, Nat.reduceEqDiff, List.cons_append, List.nil_append]
      simp -dsimp -implicitDefEqProofs only [go_sem, ↓reduceIte, Nat.reduceEqDiff, Nat.reduceLT, Nat.reduceAdd, Nat.reduceMul, Nat.reduceLeDiff, Nat.le_refl, Int.natCast_zero, Int.toNat_natCast, Int.reduceToNat, hz1]
      refine Later.draw mixed rfl ?_
      simp -dsimp -implicitDefEqProofs only [go_sem, ↓reduceIte, Nat.reduceEqDiff, Nat.reduceLT, Nat.reduceAdd, Nat.reduceMul, Nat.reduceLeDiff, Nat.le_refl, Int.natCast_zero, Int.toNat_natCast, Int.reduceToNat, htl2]
      ((repeat' (with_reducible refine And.intro ?_ ?_)); all_goals try (first | omega | (refine ⟨?_, ?_⟩ <;> omega) | (exact rfl)))
      refine sCallX_one hown ?_
      simp -dsimp -implicitDefEqProofs only [go_sem, ↓reduceIte, Nat.reduceEqDiff, Nat.reduceLT, Nat.reduceAdd, Nat.reduceMul, Nat.reduceLeDiff, Nat.le_refl, Int.natCast_zero, Int.toNat_natCast, Int.reduceToNat, hmap, htl]
      ((repeat' (with_reducible refine And.intro ?_ ?_)); all_goals try (first | omega | (refine ⟨?_, ?_⟩ <;> omega) | (exact rfl)))
      refine sCallX_one q ?_
      simp -dsimp -implicitDefEqProofs only [go_sem, ↓reduceIte, Nat.reduceEqDiff, Nat.reduceLT, Nat.reduceAdd, Nat.reduceMul, Nat.reduceLeDiff, Nat.le_refl, Int.natCast_zero, Int.toNat_natCast, Int.reduceToNat, hlt2]
      ((repeat' (with_reducible refine And.intro ?_ ?_)); all_goals try (first | omega | (refine ⟨?_, ?_⟩ <;> omega) | (exact rfl)))
      · congr 1; omega
      · rw [htl2]; simp
  · have hlt : decide ((K.length : Int) < m.chambers) = false := decide_eq_false (by omega)
    simp -dsimp -implicitDefEqProofs only [pick_nil, pick_cons, look_nil, look_cons, dropB_nil, dropB_cons, inD_nil, inD_cons, inE_nil, inE_cons, or_t_l, or_f_l, Nat.reduceBEq, Nat.reduceDiv, Nat.reduceAdd, beq_self_eq_true, Bool.false_eq_true, Bool.or_false, ↓reduceIte, Nat.reduceEqDiff, List.cons_append, List.nil_append]
    simp -dsimp -implicitDefEqProofs only [go_sem, ↓reduceIte, Nat.reduceEqDiff, Nat.reduceLT, Nat.reduceAdd, Nat.reduceMul, Nat.reduceLeDiff, Nat.le_refl, Int.natCast_zero, Int.toNat_natCast, Int.reduceToNat, hlt]
    all_goals simp
end Go.Vc


/-
  Contracts: impl's key at a rank; the key with a number.
-/
set_option linter.unusedVariables false
set_option linter.unusedSimpArgs false
set_option linter.unnecessarySimpa false
namespace Go.Vc
open Go.Proofs
set_option maxRecDepth 100000
set_option maxHeartbeats 4000000
theorem keyok_pos {m : MkM} (hm : isMk m = true) {k : List Int} (h : KeyOk m k) : k ≠ [] := by
  have ⟨⟨hch1, hch2⟩, hd1, hd2⟩ := isMk_num hm
  have := h.len
  intro hk
  rw [hk] at this
  simp at this
  omega
theorem allK_len8 {m : MkM} (hm : isMk m = true) : (allK m).length ≤ 262144 := by
  have ⟨⟨hch1, hch2⟩, hd1, hd2⟩ := isMk_num hm
  have : (allK m).length ≤ 8 ^ 6 := Nat.le_trans (keysFrom_len m hm _ _) (Nat.pow_le_pow_right (by decide) (by omega))
  omega
theorem c_iKeyAt (m : MkM) (hm : isMk m = true) (r : Nat) (h : r < (allK m).length) : Fn Tryz.prog 108 [eMk m, eI r] false (· = .tup [eIs (allK m)[r], eI 0]) := by
  refine Fn.of_vcS 16 [.tmp 4, .tmp 5] Tryz.func108 rfl rfl rfl rfl rfl (of_decide_eq_true rfl) ?_
  have ⟨⟨hch1, hch2⟩, hd1, hd2⟩ := isMk_num hm
  have hlen := allK_len8 hm
  obtain ⟨hk, hr⟩ := index_rank (by omega) h
  have hne := keyok_pos hm hk
  have hcut := cut_K m hm m.chambers.toNat [] ⟨0, [], ((r : Int), none)⟩ (by simp; omega) (fun x hx => by cases hx) ⟨rfl, Nat.le_refl _⟩ ⟨by show (0 : Int) ≤ (r : Int); omega, by show (r : Int) ≤ 1000000; omega⟩
  have hsp := cutF_spec m atF m.chambers.toNat [] ⟨0, [], ((r : Int), none)⟩ ⟨rfl, Nat.le_refl _⟩
  have hv : visitL atF ((r : Int), none) (keysFrom m m.chambers.toNat []) = ((-1, some (allK m)[r]), false) := visit_at _ r none h
  rw [hv] at hsp
  obtain ⟨-, hs1, hs2⟩ := hsp
  rw [hs1, hs2] at hcut
  clear hs1 hs2 hv
  generalize (allK m)[r] = K at *
  generalize cutF m atF m.chambers.toNat [] ⟨0, [], ((r : Int), none)⟩ = w at *
  simp only [List.length_nil, List.map_nil, fAV] at hcut
  have hmk := c_iIsMaker m
  rw [hm] at hmk
  clear hm
  simp -dsimp -implicitDefEqProofs only [go_sem, ↓reduceIte, Nat.reduceEqDiff, Nat.reduceLT, Nat.reduceAdd, Nat.reduceMul, Nat.reduceLeDiff, Nat.le_refl, Int.natCast_zero, Int.toNat_natCast, Int.reduceToNat]
  refine sCallT_one hmk ?_
  simp -dsimp -implicitDefEqProofs only [go_sem, ↓reduceIte, Nat.reduceEqDiff, Nat.reduceLT, Nat.reduceAdd, Nat.reduceMul, Nat.reduceLeDiff, Nat.le_refl, Int.natCast_zero, Int.toNat_natCast, Int.reduceToNat]
  refine sCallT_inl 900000 16 [] Tryz.func96 rfl rfl rfl rfl rfl (by exact of_decide_eq_true rfl) ?_
  simp -dsimp -implicitDefEqProofs only [go_sem, ↓reduceIte, Nat.reduceEqDiff, Nat.reduceLT, Nat.reduceAdd, Nat.reduceMul, Nat.reduceLeDiff, Nat.le_refl, Int.natCast_zero, Int.toNat_natCast, Int.reduceToNat]
  refine sCallT_HR 1700000000 hcut ⟨?_, ?_⟩ ⟨⟨?_, ?_⟩, ?_, ?_⟩ ?_
  · simp -dsimp -implicitDefEqProofs only [go_sem, ↓reduceIte, Nat.reduceEqDiff, Nat.reduceLT, Nat.reduceAdd, Nat.reduceMul, Nat.reduceLeDiff, Nat.le_refl, Int.natCast_zero, Int.toNat_natCast, Int.reduceToNat]
  · simp -dsimp -implicitDefEqProofs only [go_sem, ↓reduceIte, Nat.reduceEqDiff, Nat.reduceLT, Nat.reduceAdd, Nat.reduceMul, Nat.reduceLeDiff, Nat.le_refl, Int.natCast_zero, Int.toNat_natCast, Int.reduceToNat]
  · simp -dsimp -implicitDefEqProofs only [go_sem, ↓reduceIte, Nat.reduceEqDiff, Nat.reduceLT, Nat.reduceAdd, Nat.reduceMul, Nat.reduceLeDiff, Nat.le_refl, Int.natCast_zero, Int.toNat_natCast, Int.reduceToNat]
  · simp -dsimp -implicitDefEqProofs only [go_sem, ↓reduceIte, Nat.reduceEqDiff, Nat.reduceLT, Nat.reduceAdd, Nat.reduceMul, Nat.reduceLeDiff, Nat.le_refl, Int.natCast_zero, Int.toNat_natCast, Int.reduceToNat]
    simp [labs, labsL, inLs]
  · simp -dsimp -implicitDefEqProofs only [go_sem, ↓reduceIte, Nat.reduceEqDiff, Nat.reduceLT, Nat.reduceAdd, Nat.reduceMul, Nat.reduceLeDiff, Nat.le_refl, Int.natCast_zero, Int.toNat_natCast, Int.reduceToNat]
  · simp -dsimp -implicitDefEqProofs only [go_sem, ↓reduceIte, Nat.reduceEqDiff, Nat.reduceLT, Nat.reduceAdd, Nat.reduceMul, Nat.reduceLeDiff, Nat.le_refl, Int.natCast_zero, Int.toNat_natCast, Int.reduceToNat]
    simp [labs, labsL, inLs]
  · rintro r m' ⟨hr, hm'⟩
    rw [hr, hm']
    simp -dsimp -implicitDefEqProofs only [go_sem, ↓reduceIte, Nat.reduceEqDiff, Nat.reduceLT, Nat.reduceAdd, Nat.reduceMul, Nat.reduceLeDiff, Nat.le_refl, Int.natCast_zero, Int.toNat_natCast, Int.reduceToNat]
    intro c hc
    obtain rfl : c = false := by
      cases c with
      | false => rfl
      | true => exact absurd (hc rfl) (by simpa using hne)
    simp -dsimp -implicitDefEqProofs only [go_sem, ↓reduceIte, Nat.reduceEqDiff, Nat.reduceLT, Nat.reduceAdd, Nat.reduceMul, Nat.reduceLeDiff, Nat.le_refl, Int.natCast_zero, Int.toNat_natCast, Int.reduceToNat]
theorem c_keyWith (m : MkM) (hm : isMk m = true) (n sec : Int) (hn : 0 ≤ n ∧ n < allN m) (hs : 0 ≤ sec ∧ sec < allN m) (h : ((n + allN m - sec).tmod (allN m)).toNat < (allK m).length) :
    Fn Tryz.prog 60 [eMk m, eI (allN m), eI n, eI sec] false (· = eIs (allK m)[((n + allN m - sec).tmod (allN m)).toNat]) := by
  refine Fn.of_vcS 24 [.tmp 8] Tryz.func60 rfl rfl rfl rfl rfl (of_decide_eq_true rfl) ?_
  have q := c_iKeyAt m hm _ h
  have hlen := allK_len8 hm
  have hN : allN m = (allK m).length := by unfold allN; rw [allK_cnt]
  generalize (allK m)[((n + allN m - sec).tmod (allN m)).toNat] = K at *
  have hnn : 0 ≤ (n + allN m - sec).tmod (allN m) := Int.tmod_nonneg _ (by omega)
  have e1 : n - sec + allN m = n + allN m - sec := by omega
  rw [Int.toNat_of_nonneg hnn] at q
  generalize allN m = N at *
  have hNz : (N == 0) = false := beq_eq_false_iff_ne.2 (by omega)
  generalize (allK m).length = L at *
  simp -dsimp -implicitDefEqProofs only [go_sem, ↓reduceIte, Nat.reduceEqDiff, Nat.reduceLT, Nat.reduceAdd, Nat.reduceMul, Nat.reduceLeDiff, Nat.le_refl, Int.natCast_zero, Int.toNat_natCast, Int.reduceToNat, e1]
  refine Later.draw mixed rfl ?_
  simp -dsimp -implicitDefEqProofs only [go_sem, ↓reduceIte, Nat.reduceEqDiff, Nat.reduceLT, Nat.reduceAdd, Nat.reduceMul, Nat.reduceLeDiff, Nat.le_refl, Int.natCast_zero, Int.toNat_natCast, Int.reduceToNat, e1, hNz]
  ((repeat' (with_reducible refine And.intro ?_ ?_)); all_goals try (first | omega | (refine ⟨?_, ?_⟩ <;> omega) | (exact rfl)))
  refine sCallXS_one q (by simp [noLabs, labs, labsL, isClo]) ?_
  simp -dsimp -implicitDefEqProofs only [go_sem, ↓reduceIte, Nat.reduceEqDiff, Nat.reduceLT, Nat.reduceAdd, Nat.reduceMul, Nat.reduceLeDiff, Nat.le_refl, Int.natCast_zero, Int.toNat_natCast, Int.reduceToNat]
  exact rfl
end Go.Vc


/-
  Contracts: stamps made, read, moved.
-/
set_option linter.unusedVariables false
set_option linter.unusedSimpArgs false
set_option linter.unnecessarySimpa false
namespace Go.Vc
open Go.Proofs Go.Lib
set_option maxRecDepth 100000
set_option maxHeartbeats 4000000
def codeO (m : MkM) (se sec : Int) : Int := if isMk m = true then if isIn se 0 25 = true ∧ isIn sec 0 (allN m - 1) = true then 0 else 2 else 1
def atK (m : MkM) (i : Int) : List Int := (allK m).getD i.toNat []
def readO (m : MkM) (s : List UInt8) (sec : Int) : List Int × Int × Int :=
  if codeO m 0 sec = 0 then if (readS (allN m) s).2.2 = true then (atK m (((readS (allN m) s).2.1 + allN m - sec).tmod (allN m)), (readS (allN m) s).1, 0) else ([], 0, 6) else ([], 0, codeO m 0 sec)
def stampO (m : MkM) (key : List Int) (se sec : Int) : List UInt8 × Int :=
  if codeO m se sec = 0 then if fault m key = 0 then (stampS (itoa (allN m)).length se ((rankTo m key key.length + sec).tmod (allN m)), 0) else ([], 2) else ([], codeO m se sec)
def moveO (m : MkM) (s : List UInt8) (a b : Int) : List UInt8 × Int :=
  if codeO m 0 a = 0 then if codeO m 0 b = 0 then if (readS (allN m) s).2.2 = true then (stampS (itoa (allN m)).length (readS (allN m) s).1 (((readS (allN m) s).2.1 - a + b + allN m).tmod (allN m)), 0) else ([], 6) else ([], codeO m 0 b) else ([], codeO m 0 a)
theorem allN_len (m : MkM) : allN m = (allK m).length := by unfold allN; rw [allK_cnt]
theorem allN_bound {m : MkM} (hm : isMk m = true) : 0 ≤ allN m ∧ allN m ≤ 262144 := by
  have := allK_len8 hm
  rw [allN_len]; omega
theorem codeO_ok {m : MkM} {se sec : Int} (h : codeO m se sec = 0) : isMk m = true ∧ (0 ≤ se ∧ se ≤ 25) ∧ 0 ≤ sec ∧ sec < allN m := by
  unfold codeO at h
  split at h
  · rename_i hm
    split at h
    · rename_i hi
      simp only [isIn, Bool.and_eq_true, decide_eq_true_eq] at hi
      exact ⟨hm, by omega, by omega, by omega⟩
    · omega
  · omega
theorem codeO_iff {m : MkM} {se sec : Int} : codeO m se sec = 0 ↔ isMk m = true ∧ (0 ≤ se ∧ se ≤ 25) ∧ 0 ≤ sec ∧ sec < allN m := by
  refine ⟨codeO_ok, fun ⟨h1, h2, h3⟩ => ?_⟩
  unfold codeO
  rw [if_pos h1, if_pos]
  simp only [isIn, Bool.and_eq_true, decide_eq_true_eq]
  omega
theorem codeO_no {m : MkM} (h : isMk m = false) (se sec : Int) : codeO m se sec = 1 := by rw [codeO, if_neg (by rw [h]; exact fun h => by cases h)]
theorem readS_1 {K : Int} {s : List UInt8} (h : (readS K s).2.2 = true) : 0 ≤ (readS K s).1 ∧ (readS K s).1 ≤ 25 := by
  unfold readS at h ⊢
  split
  · dsimp only; omega
  · simp
theorem readI_1 {K : Int} {s : List UInt8} (h : (readI K s).2.2 = true) : (readI K s).1 = (readS K s).1 := by
  have h2 := (read_same K s).1
  rw [h] at h2
  unfold readI at h ⊢
  unfold readS at h2 ⊢
  split at h
  · rename_i q
    split at h
    · rename_i q2
      rw [if_pos q, if_pos q2]
      split at h2
      · rename_i q3; rw [if_pos q3]
      · cases h2
    · cases h
  · cases h
theorem c_l28Code (m : MkM) (se sec : Int) : Fn Tryz.prog 52 [eMk m, eI se, eI sec] true (· = eI (codeO m se sec)) := by
  refine Fn.of_vcN 21 [.tmp 6] Tryz.func52 rfl rfl rfl rfl rfl (of_decide_eq_true rfl) ?_
  have hmk := c_sIsMaker m
  unfold codeO
  rcases hm : isMk m with _ | _
  · rw [hm] at hmk
    simp only [Bool.false_eq_true, if_false]
    clear hm
    simp -dsimp -implicitDefEqProofs only [go_sem, ↓reduceIte, Nat.reduceEqDiff, Nat.reduceLT, Nat.reduceAdd, Nat.reduceMul, Nat.reduceLeDiff, Nat.le_refl, Int.natCast_zero, Int.toNat_natCast, Int.reduceToNat]
    repeat' (refine sCallT_one (hmk) ?_; try simp -dsimp -implicitDefEqProofs only [go_sem, ↓reduceIte, Nat.reduceEqDiff, Nat.reduceLT, Nat.reduceAdd, Nat.reduceMul, Nat.reduceLeDiff, Nat.le_refl, Int.natCast_zero, Int.toNat_natCast, Int.reduceToNat, *])
  · have hcn := c_l02Count0 m hm
    have hb := allN_bound hm
    have e : allN m = (cnt m m.chambers.toNat [] : Nat) := rfl
    rw [e] at hb ⊢
    rw [hm] at hmk
    clear hm e
    generalize cnt m m.chambers.toNat [] = N at *
    have i1 := c_l01In se 0 25
    have i2 := c_l01In sec 0 ((N : Int) - 1)
    simp only [if_true]
    generalize isIn se 0 25 = x at *
    generalize isIn sec 0 ((N : Int) - 1) = y at *
    cases x
    · simp only [Bool.false_eq_true, false_and, if_false]
      simp -dsimp -implicitDefEqProofs only [go_sem, ↓reduceIte, Nat.reduceEqDiff, Nat.reduceLT, Nat.reduceAdd, Nat.reduceMul, Nat.reduceLeDiff, Nat.le_refl, Int.natCast_zero, Int.toNat_natCast, Int.reduceToNat]
      repeat' (refine sCallT_one (hmk) ?_; try simp -dsimp -implicitDefEqProofs only [go_sem, ↓reduceIte, Nat.reduceEqDiff, Nat.reduceLT, Nat.reduceAdd, Nat.reduceMul, Nat.reduceLeDiff, Nat.le_refl, Int.natCast_zero, Int.toNat_natCast, Int.reduceToNat, *])
      repeat' (refine sCallT_one (i1) ?_; try simp -dsimp -implicitDefEqProofs only [go_sem, ↓reduceIte, Nat.reduceEqDiff, Nat.reduceLT, Nat.reduceAdd, Nat.reduceMul, Nat.reduceLeDiff, Nat.le_refl, Int.natCast_zero, Int.toNat_natCast, Int.reduceToNat, *])
    · cases y
      · simp only [Bool.false_eq_true, and_false, if_false]
        simp -dsimp -implicitDefEqProofs only [go_sem, ↓reduceIte, Nat.reduceEqDiff, Nat.reduceLT, Nat.reduceAdd, Nat.reduceMul, Nat.reduceLeDiff, Nat.le_refl, Int.natCast_zero, Int.toNat_natCast, Int.reduceToNat]
        repeat' (refine sCallT_one (hmk) ?_; try simp -dsimp -implicitDefEqProofs only [go_sem, ↓reduceIte, Nat.reduceEqDiff, Nat.reduceLT, Nat.reduceAdd, Nat.reduceMul, Nat.reduceLeDiff, Nat.le_refl, Int.natCast_zero, Int.toNat_natCast, Int.reduceToNat, *])
        repeat' (refine sCallT_one (i1) ?_; try simp -dsimp -implicitDefEqProofs only [go_sem, ↓reduceIte, Nat.reduceEqDiff, Nat.reduceLT, Nat.reduceAdd, Nat.reduceMul, Nat.reduceLeDiff, Nat.le_refl, Int.natCast_zero, Int.toNat_natCast, Int.reduceToNat, *])
        repeat' (refine sCallT_one (hcn) ?_; try simp -dsimp -implicitDefEqProofs only [go_sem, ↓reduceIte, Nat.reduceEqDiff, Nat.reduceLT, Nat.reduceAdd, Nat.reduceMul, Nat.reduceLeDiff, Nat.le_refl, Int.natCast_zero, Int.toNat_natCast, Int.reduceToNat, *])
        ((repeat' (with_reducible refine And.intro ?_ ?_)); all_goals try (first | omega | (refine ⟨?_, ?_⟩ <;> omega) | (exact rfl)))
        repeat' (refine sCallT_one (i2) ?_; try simp -dsimp -implicitDefEqProofs only [go_sem, ↓reduceIte, Nat.reduceEqDiff, Nat.reduceLT, Nat.reduceAdd, Nat.reduceMul, Nat.reduceLeDiff, Nat.le_refl, Int.natCast_zero, Int.toNat_natCast, Int.reduceToNat, *])
      · simp only [and_self, if_true]
        simp -dsimp -implicitDefEqProofs only [go_sem, ↓reduceIte, Nat.reduceEqDiff, Nat.reduceLT, Nat.reduceAdd, Nat.reduceMul, Nat.reduceLeDiff, Nat.le_refl, Int.natCast_zero, Int.toNat_natCast, Int.reduceToNat]
        repeat' (refine sCallT_one (hmk) ?_; try simp -dsimp -implicitDefEqProofs only [go_sem, ↓reduceIte, Nat.reduceEqDiff, Nat.reduceLT, Nat.reduceAdd, Nat.reduceMul, Nat.reduceLeDiff, Nat.le_refl, Int.natCast_zero, Int.toNat_natCast, Int.reduceToNat, *])
        repeat' (refine sCallT_one (i1) ?_; try simp -dsimp -implicitDefEqProofs only [go_sem, ↓reduceIte, Nat.reduceEqDiff, Nat.reduceLT, Nat.reduceAdd, Nat.reduceMul, Nat.reduceLeDiff, Nat.le_refl, Int.natCast_zero, Int.toNat_natCast, Int.reduceToNat, *])
        repeat' (refine sCallT_one (hcn) ?_; try simp -dsimp -implicitDefEqProofs only [go_sem, ↓reduceIte, Nat.reduceEqDiff, Nat.reduceLT, Nat.reduceAdd, Nat.reduceMul, Nat.reduceLeDiff, Nat.le_refl, Int.natCast_zero, Int.toNat_natCast, Int.reduceToNat, *])
        ((repeat' (with_reducible refine And.intro ?_ ?_)); all_goals try (first | omega | (refine ⟨?_, ?_⟩ <;> omega) | (exact rfl)))
        repeat' (refine sCallT_one (i2) ?_; try simp -dsimp -implicitDefEqProofs only [go_sem, ↓reduceIte, Nat.reduceEqDiff, Nat.reduceLT, Nat.reduceAdd, Nat.reduceMul, Nat.reduceLeDiff, Nat.le_refl, Int.natCast_zero, Int.toNat_natCast, Int.reduceToNat, *])
theorem c_CountKeys (m : MkM) : Fn Tryz.prog 58 [eMk m] true (· = .tup [eI (if isMk m = true then allN m else 0), eI (if isMk m = true then 0 else 1)]) := by
  refine Fn.of_vcN 9 [.tmp 2, .tmp 3] Tryz.func58 rfl rfl rfl rfl rfl (of_decide_eq_true rfl) ?_
  have hmk := c_iIsMaker m
  rcases hm : isMk m with _ | _
  · rw [hm] at hmk
    simp only [Bool.false_eq_true, if_false]
    clear hm
    simp -dsimp -implicitDefEqProofs only [go_sem, ↓reduceIte, Nat.reduceEqDiff, Nat.reduceLT, Nat.reduceAdd, Nat.reduceMul, Nat.reduceLeDiff, Nat.le_refl, Int.natCast_zero, Int.toNat_natCast, Int.reduceToNat]
    repeat' (refine sCallT_one (hmk) ?_; try simp -dsimp -implicitDefEqProofs only [go_sem, ↓reduceIte, Nat.reduceEqDiff, Nat.reduceLT, Nat.reduceAdd, Nat.reduceMul, Nat.reduceLeDiff, Nat.le_refl, Int.natCast_zero, Int.toNat_natCast, Int.reduceToNat, *])
  · have hcn := c_countKeys m hm
    rw [hm] at hmk
    simp only [if_true]
    clear hm
    simp -dsimp -implicitDefEqProofs only [go_sem, ↓reduceIte, Nat.reduceEqDiff, Nat.reduceLT, Nat.reduceAdd, Nat.reduceMul, Nat.reduceLeDiff, Nat.le_refl, Int.natCast_zero, Int.toNat_natCast, Int.reduceToNat]
    repeat' (refine sCallT_one (hmk) ?_; try simp -dsimp -implicitDefEqProofs only [go_sem, ↓reduceIte, Nat.reduceEqDiff, Nat.reduceLT, Nat.reduceAdd, Nat.reduceMul, Nat.reduceLeDiff, Nat.le_refl, Int.natCast_zero, Int.toNat_natCast, Int.reduceToNat, *])
    repeat' (refine sCallT_one (hcn) ?_; try simp -dsimp -implicitDefEqProofs only [go_sem, ↓reduceIte, Nat.reduceEqDiff, Nat.reduceLT, Nat.reduceAdd, Nat.reduceMul, Nat.reduceLeDiff, Nat.le_refl, Int.natCast_zero, Int.toNat_natCast, Int.reduceToNat, *])
    all_goals first | rfl | trace_state
theorem c_iStampWidth (m : MkM) : Fn Tryz.prog 14 [eMk m] true (· = .tup [eI (if isMk m = true then ((itoa (allN m)).length : Int) + 4 else 0), eI (if isMk m = true then 0 else 1)]) := by
  refine Fn.of_vcN 18 [.tmp 2, .tmp 3] Tryz.func14 rfl rfl rfl rfl rfl (of_decide_eq_true rfl) ?_
  have hmk := c_CountKeys m
  have h10 : ((1 : Int) != 0) = true := rfl
  rcases hm : isMk m with _ | _
  · rw [hm] at hmk
    simp only [Bool.false_eq_true, if_false] at hmk ⊢
    clear hm
    simp -dsimp -implicitDefEqProofs only [go_sem, ↓reduceIte, Nat.reduceEqDiff, Nat.reduceLT, Nat.reduceAdd, Nat.reduceMul, Nat.reduceLeDiff, Nat.le_refl, Int.natCast_zero, Int.toNat_natCast, Int.reduceToNat]
    repeat' (refine sCallT_one (hmk) ?_; try simp -dsimp -implicitDefEqProofs only [go_sem, ↓reduceIte, Nat.reduceEqDiff, Nat.reduceLT, Nat.reduceAdd, Nat.reduceMul, Nat.reduceLeDiff, Nat.le_refl, Int.natCast_zero, Int.toNat_natCast, Int.reduceToNat, *])
  · rw [hm] at hmk
    have hb := allN_bound hm
    simp only [if_true] at hmk ⊢
    clear hm
    have ht := c_text (n := allN m) (by unfold I64; omega)
    have hl : (itoa (allN m)).length ≤ 6 := by rw [itoa_of_nonneg (by omega)]; exact dec_len_le 5 _ (by omega)
    generalize allN m = N at *
    generalize itoa N = A at *
    simp -dsimp -implicitDefEqProofs only [go_sem, ↓reduceIte, Nat.reduceEqDiff, Nat.reduceLT, Nat.reduceAdd, Nat.reduceMul, Nat.reduceLeDiff, Nat.le_refl, Int.natCast_zero, Int.toNat_natCast, Int.reduceToNat]
    repeat' (refine sCallT_one (hmk) ?_; try simp -dsimp -implicitDefEqProofs only [go_sem, ↓reduceIte, Nat.reduceEqDiff, Nat.reduceLT, Nat.reduceAdd, Nat.reduceMul, Nat.reduceLeDiff, Nat.le_refl, Int.natCast_zero, Int.toNat_natCast, Int.reduceToNat, *])
    repeat' (refine sCallT_one (ht) ?_; try simp -dsimp -implicitDefEqProofs only [go_sem, ↓reduceIte, Nat.reduceEqDiff, Nat.reduceLT, Nat.reduceAdd, Nat.reduceMul, Nat.reduceLeDiff, Nat.le_refl, Int.natCast_zero, Int.toNat_natCast, Int.reduceToNat, *])
    ((repeat' (with_reducible refine And.intro ?_ ?_)); all_goals try (first | omega | (refine ⟨?_, ?_⟩ <;> omega) | (exact rfl)))
    all_goals trace_state
theorem c_iIsStamp (m : MkM) (s : List UInt8) (hs : s.length ≤ 1048576) : Fn Tryz.prog 15 [eMk m, eS s] true (· = eB (isMk m && (readS (allN m) s).2.2)) := by
  refine Fn.of_vcN 25 [.tmp 4] Tryz.func15 rfl rfl rfl rfl rfl (of_decide_eq_true rfl) ?_
  have hmk := c_CountKeys m
  have h10 : ((1 : Int) != 0) = true := rfl
  rcases hm : isMk m with _ | _
  · rw [hm] at hmk
    simp only [Bool.false_eq_true, if_false, Bool.false_and] at hmk ⊢
    clear hm
    simp -dsimp -implicitDefEqProofs only [go_sem, ↓reduceIte, Nat.reduceEqDiff, Nat.reduceLT, Nat.reduceAdd, Nat.reduceMul, Nat.reduceLeDiff, Nat.le_refl, Int.natCast_zero, Int.toNat_natCast, Int.reduceToNat]
    repeat' (refine sCallT_one (hmk) ?_; try simp -dsimp -implicitDefEqProofs only [go_sem, ↓reduceIte, Nat.reduceEqDiff, Nat.reduceLT, Nat.reduceAdd, Nat.reduceMul, Nat.reduceLeDiff, Nat.le_refl, Int.natCast_zero, Int.toNat_natCast, Int.reduceToNat, *])
  · rw [hm] at hmk
    have hb := allN_bound hm
    simp only [if_true, Bool.true_and] at hmk ⊢
    clear hm
    have hrd := c_readStamp (allN m) s (by omega) hs
    rw [← (read_same (allN m) s).1]
    generalize allN m = N at *
    generalize readI N s = R at *
    simp -dsimp -implicitDefEqProofs only [go_sem, ↓reduceIte, Nat.reduceEqDiff, Nat.reduceLT, Nat.reduceAdd, Nat.reduceMul, Nat.reduceLeDiff, Nat.le_refl, Int.natCast_zero, Int.toNat_natCast, Int.reduceToNat]
    repeat' (refine sCallT_one (hmk) ?_; try simp -dsimp -implicitDefEqProofs only [go_sem, ↓reduceIte, Nat.reduceEqDiff, Nat.reduceLT, Nat.reduceAdd, Nat.reduceMul, Nat.reduceLeDiff, Nat.le_refl, Int.natCast_zero, Int.toNat_natCast, Int.reduceToNat, *])
    repeat' (refine sCallT_one (hrd) ?_; try simp -dsimp -implicitDefEqProofs only [go_sem, ↓reduceIte, Nat.reduceEqDiff, Nat.reduceLT, Nat.reduceAdd, Nat.reduceMul, Nat.reduceLeDiff, Nat.le_refl, Int.natCast_zero, Int.toNat_natCast, Int.reduceToNat, *])
    all_goals trace_state
theorem c_iStampOf (m : MkM) (key : List Int) (se sec : Int) (hk : key.length ≤ 1048576) : Fn Tryz.prog 8 [eMk m, eIs key, eI se, eI sec] true (· = .tup [eS (stampO m key se sec).1, eI (stampO m key se sec).2]) := by
  refine Fn.of_vcN 42 [.tmp 8, .tmp 9] Tryz.func8 rfl rfl rfl rfl rfl (of_decide_eq_true rfl) ?_
  have hcode := c_RankOf m key hk
  have h10 : ((1 : Int) != 0) = true := rfl
  have h20 : ((2 : Int) != 0) = true := rfl
  have h00 : ((0 : Int) != 0) = false := rfl
  unfold stampO codeO
  rcases hm : isMk m with _ | _
  · rw [hm] at hcode
    simp only [Bool.false_eq_true, if_false, Int.reduceEq] at hcode ⊢
    clear hm
    simp -dsimp -implicitDefEqProofs only [go_sem, ↓reduceIte, Nat.reduceEqDiff, Nat.reduceLT, Nat.reduceAdd, Nat.reduceMul, Nat.reduceLeDiff, Nat.le_refl, Int.natCast_zero, Int.toNat_natCast, Int.reduceToNat]
    repeat' (refine sCallT_one (hcode) ?_; try simp -dsimp -implicitDefEqProofs only [go_sem, ↓reduceIte, Nat.reduceEqDiff, Nat.reduceLT, Nat.reduceAdd, Nat.reduceMul, Nat.reduceLeDiff, Nat.le_refl, Int.natCast_zero, Int.toNat_natCast, Int.reduceToNat, *])
  · rw [hm] at hcode
    simp only [if_true] at hcode ⊢
    by_cases hf : fault m key = 0
    · rw [if_pos hf] at hcode ⊢
      have hcn := c_countKeys m hm
      have hlt := (rank_of hf).2
      have hb := cnt_nil_bound m hm
      have i1 := c_within se 0 25
      have i2 := c_within sec 0 (allN m - 1)
      have d1 : isIn se 0 25 = true → 0 ≤ se ∧ se ≤ 25 := by simp [isIn]
      have d2 : isIn sec 0 (allN m - 1) = true → 0 ≤ sec ∧ sec ≤ allN m - 1 := by simp [isIn]
      have e : allN m = (cnt m m.chambers.toNat [] : Nat) := rfl
      rw [e] at i2 d2 ⊢
      have hst := fun a b => c_stampText (cnt m m.chambers.toNat []) se ((rankTo m key key.length + sec).tmod (cnt m m.chambers.toNat [] : Nat)) (by omega) a b
      have hbn : 0 ≤ sec → 0 ≤ (rankTo m key key.length + sec).tmod (cnt m m.chambers.toNat [] : Nat) ∧ (rankTo m key key.length + sec).tmod (cnt m m.chambers.toNat [] : Nat) ≤ 1000000 := fun h => ⟨Int.tmod_nonneg _ (by omega), by
        have := Int.tmod_lt_of_pos (rankTo m key key.length + sec) (show 0 < ((cnt m m.chambers.toNat [] : Nat) : Int) by omega)
        omega⟩
      generalize cnt m m.chambers.toNat [] = N at *
      generalize rankTo m key key.length = r at *
      have hN0 : ((N : Int) == 0) = false := beq_eq_false_iff_ne.2 (by omega)
      clear hm hf e
      generalize isIn se 0 25 = x at *
      generalize isIn sec 0 ((N : Int) - 1) = y at *
      cases x
      · simp only [Bool.false_eq_true, false_and, if_false, Int.reduceEq]
        clear hst hbn d1 d2
        simp -dsimp -implicitDefEqProofs only [go_sem, ↓reduceIte, Nat.reduceEqDiff, Nat.reduceLT, Nat.reduceAdd, Nat.reduceMul, Nat.reduceLeDiff, Nat.le_refl, Int.natCast_zero, Int.toNat_natCast, Int.reduceToNat]
        repeat' (refine sCallT_one (hcode) ?_; try simp -dsimp -implicitDefEqProofs only [go_sem, ↓reduceIte, Nat.reduceEqDiff, Nat.reduceLT, Nat.reduceAdd, Nat.reduceMul, Nat.reduceLeDiff, Nat.le_refl, Int.natCast_zero, Int.toNat_natCast, Int.reduceToNat, *])
        repeat' (refine sCallT_one (hcn) ?_; try simp -dsimp -implicitDefEqProofs only [go_sem, ↓reduceIte, Nat.reduceEqDiff, Nat.reduceLT, Nat.reduceAdd, Nat.reduceMul, Nat.reduceLeDiff, Nat.le_refl, Int.natCast_zero, Int.toNat_natCast, Int.reduceToNat, *])
        repeat' (refine sCallT_one (i1) ?_; try simp -dsimp -implicitDefEqProofs only [go_sem, ↓reduceIte, Nat.reduceEqDiff, Nat.reduceLT, Nat.reduceAdd, Nat.reduceMul, Nat.reduceLeDiff, Nat.le_refl, Int.natCast_zero, Int.toNat_natCast, Int.reduceToNat, *])
        all_goals trace_state
      · cases y
        · simp only [Bool.false_eq_true, and_false, if_false, Int.reduceEq]
          clear hst hbn d1 d2
          simp -dsimp -implicitDefEqProofs only [go_sem, ↓reduceIte, Nat.reduceEqDiff, Nat.reduceLT, Nat.reduceAdd, Nat.reduceMul, Nat.reduceLeDiff, Nat.le_refl, Int.natCast_zero, Int.toNat_natCast, Int.reduceToNat]
          repeat' (refine sCallT_one (hcode) ?_; try simp -dsimp -implicitDefEqProofs only [go_sem, ↓reduceIte, Nat.reduceEqDiff, Nat.reduceLT, Nat.reduceAdd, Nat.reduceMul, Nat.reduceLeDiff, Nat.le_refl, Int.natCast_zero, Int.toNat_natCast, Int.reduceToNat, *])
          repeat' (refine sCallT_one (hcn) ?_; try simp -dsimp -implicitDefEqProofs only [go_sem, ↓reduceIte, Nat.reduceEqDiff, Nat.reduceLT, Nat.reduceAdd, Nat.reduceMul, Nat.reduceLeDiff, Nat.le_refl, Int.natCast_zero, Int.toNat_natCast, Int.reduceToNat, *])
          repeat' (refine sCallT_one (i1) ?_; try simp -dsimp -implicitDefEqProofs only [go_sem, ↓reduceIte, Nat.reduceEqDiff, Nat.reduceLT, Nat.reduceAdd, Nat.reduceMul, Nat.reduceLeDiff, Nat.le_refl, Int.natCast_zero, Int.toNat_natCast, Int.reduceToNat, *])
          ((repeat' (with_reducible refine And.intro ?_ ?_)); all_goals try (first | omega | (refine ⟨?_, ?_⟩ <;> omega) | (exact rfl)))
          repeat' (refine sCallT_one (i2) ?_; try simp -dsimp -implicitDefEqProofs only [go_sem, ↓reduceIte, Nat.reduceEqDiff, Nat.reduceLT, Nat.reduceAdd, Nat.reduceMul, Nat.reduceLeDiff, Nat.le_refl, Int.natCast_zero, Int.toNat_natCast, Int.reduceToNat, *])
          all_goals trace_state
        · simp only [and_self, if_true]
          have e1 := d1 rfl
          have e2 := d2 rfl
          have hst := hst e1 (hbn e2.1)
          clear hbn d1 d2
          generalize itoa (N : Int) = A at *
          simp -dsimp -implicitDefEqProofs only [go_sem, ↓reduceIte, Nat.reduceEqDiff, Nat.reduceLT, Nat.reduceAdd, Nat.reduceMul, Nat.reduceLeDiff, Nat.le_refl, Int.natCast_zero, Int.toNat_natCast, Int.reduceToNat]
          repeat' (refine sCallT_one (hcode) ?_; try simp -dsimp -implicitDefEqProofs only [go_sem, ↓reduceIte, Nat.reduceEqDiff, Nat.reduceLT, Nat.reduceAdd, Nat.reduceMul, Nat.reduceLeDiff, Nat.le_refl, Int.natCast_zero, Int.toNat_natCast, Int.reduceToNat, *])
          repeat' (refine sCallT_one (hcn) ?_; try simp -dsimp -implicitDefEqProofs only [go_sem, ↓reduceIte, Nat.reduceEqDiff, Nat.reduceLT, Nat.reduceAdd, Nat.reduceMul, Nat.reduceLeDiff, Nat.le_refl, Int.natCast_zero, Int.toNat_natCast, Int.reduceToNat, *])
          repeat' (refine sCallT_one (i1) ?_; try simp -dsimp -implicitDefEqProofs only [go_sem, ↓reduceIte, Nat.reduceEqDiff, Nat.reduceLT, Nat.reduceAdd, Nat.reduceMul, Nat.reduceLeDiff, Nat.le_refl, Int.natCast_zero, Int.toNat_natCast, Int.reduceToNat, *])
          ((repeat' (with_reducible refine And.intro ?_ ?_)); all_goals try (first | omega | (refine ⟨?_, ?_⟩ <;> omega) | (exact rfl)))
          repeat' (refine sCallT_one (i2) ?_; try simp -dsimp -implicitDefEqProofs only [go_sem, ↓reduceIte, Nat.reduceEqDiff, Nat.reduceLT, Nat.reduceAdd, Nat.reduceMul, Nat.reduceLeDiff, Nat.le_refl, Int.natCast_zero, Int.toNat_natCast, Int.reduceToNat, *])
          ((repeat' (with_reducible refine And.intro ?_ ?_)); all_goals try (first | omega | (refine ⟨?_, ?_⟩ <;> omega) | (exact rfl)))
          repeat' (refine sCallT_one (hst) ?_; try simp -dsimp -implicitDefEqProofs only [go_sem, ↓reduceIte, Nat.reduceEqDiff, Nat.reduceLT, Nat.reduceAdd, Nat.reduceMul, Nat.reduceLeDiff, Nat.le_refl, Int.natCast_zero, Int.toNat_natCast, Int.reduceToNat, *])
          all_goals trace_state
    · rw [if_neg hf] at hcode
      have hz : (if (if isIn se 0 25 = true ∧ isIn sec 0 (allN m - 1) = true then (0 : Int) else 2) = 0 then if fault m key = 0 then (stampS (itoa (allN m)).length se ((rankTo m key key.length + sec).tmod (allN m)), (0 : Int)) else ([], 2) else ([], if isIn se 0 25 = true ∧ isIn sec 0 (allN m - 1) = true then 0 else 2)) = ([], 2) := by
        by_cases q : isIn se 0 25 = true ∧ isIn sec 0 (allN m - 1) = true
        · rw [if_pos q, if_pos rfl, if_neg hf]
        · rw [if_neg q, if_neg (by omega)]
      rw [hz]
      clear hm hf hz
      simp -dsimp -implicitDefEqProofs only [go_sem, ↓reduceIte, Nat.reduceEqDiff, Nat.reduceLT, Nat.reduceAdd, Nat.reduceMul, Nat.reduceLeDiff, Nat.le_refl, Int.natCast_zero, Int.toNat_natCast, Int.reduceToNat]
      repeat' (refine sCallT_one (hcode) ?_; try simp -dsimp -implicitDefEqProofs only [go_sem, ↓reduceIte, Nat.reduceEqDiff, Nat.reduceLT, Nat.reduceAdd, Nat.reduceMul, Nat.reduceLeDiff, Nat.le_refl, Int.natCast_zero, Int.toNat_natCast, Int.reduceToNat, *])
      all_goals trace_state
theorem c_sStampOf (m : MkM) (key : List Int) (se sec : Int) (hk : key.length ≤ 1048576) : Fn Tryz.prog 9 [eMk m, eIs key, eI se, eI sec] true (· = .tup [eS (stampO m key se sec).1, eI (stampO m key se sec).2]) := by
  refine Fn.of_vcN 37 [.tmp 8, .tmp 9] Tryz.func9 rfl rfl rfl rfl rfl (of_decide_eq_true rfl) ?_
  have hcode := c_l28Code m se sec
  have h10 : ((1 : Int) != 0) = true := rfl
  have h20 : ((2 : Int) != 0) = true := rfl
  have h00 : ((0 : Int) != 0) = false := rfl
  unfold stampO
  by_cases hc : codeO m se sec = 0
  · obtain ⟨hm, hse, hsec⟩ := codeO_ok hc
    rw [hc] at hcode
    rw [if_pos hc]
    have hfa := c_l02Fault m key hm hk
    have hcn := c_l02Count0 m hm
    by_cases hf : fault m key = 0
    · rw [hf] at hfa
      rw [if_pos hf]
      have hlt := (rank_of hf).2
      have hb := cnt_nil_bound m hm
      have hrk := c_l03Rank m key hm hf
      have e : allN m = (cnt m m.chambers.toNat [] : Nat) := rfl
      rw [e] at hsec ⊢
      have hbn : 0 ≤ (rankTo m key key.length + sec).tmod (cnt m m.chambers.toNat [] : Nat) ∧ (rankTo m key key.length + sec).tmod (cnt m m.chambers.toNat [] : Nat) ≤ 1000000 := ⟨Int.tmod_nonneg _ (by omega), by
        have := Int.tmod_lt_of_pos (rankTo m key key.length + sec) (show 0 < ((cnt m m.chambers.toNat [] : Nat) : Int) by omega)
        omega⟩
      have hst := c_l28Text m hm se _ hse hbn
      generalize cnt m m.chambers.toNat [] = N at *
      generalize rankTo m key key.length = r at *
      have hN0 : ((N : Int) == 0) = false := beq_eq_false_iff_ne.2 (by omega)
      clear hm hf e hc
      generalize itoa (N : Int) = A at *
      simp -dsimp -implicitDefEqProofs only [go_sem, ↓reduceIte, Nat.reduceEqDiff, Nat.reduceLT, Nat.reduceAdd, Nat.reduceMul, Nat.reduceLeDiff, Nat.le_refl, Int.natCast_zero, Int.toNat_natCast, Int.reduceToNat]
      repeat' (refine sCallT_one (hcode) ?_; try simp -dsimp -implicitDefEqProofs only [go_sem, ↓reduceIte, Nat.reduceEqDiff, Nat.reduceLT, Nat.reduceAdd, Nat.reduceMul, Nat.reduceLeDiff, Nat.le_refl, Int.natCast_zero, Int.toNat_natCast, Int.reduceToNat, *])
      repeat' (refine sCallT_one (hfa) ?_; try simp -dsimp -implicitDefEqProofs only [go_sem, ↓reduceIte, Nat.reduceEqDiff, Nat.reduceLT, Nat.reduceAdd, Nat.reduceMul, Nat.reduceLeDiff, Nat.le_refl, Int.natCast_zero, Int.toNat_natCast, Int.reduceToNat, *])
      refine Later.draw mixed rfl ?_
      simp -dsimp -implicitDefEqProofs only [go_sem, ↓reduceIte, Nat.reduceEqDiff, Nat.reduceLT, Nat.reduceAdd, Nat.reduceMul, Nat.reduceLeDiff, Nat.le_refl, Int.natCast_zero, Int.toNat_natCast, Int.reduceToNat]
      (refine sCallX_one (hrk) ?_; try simp -dsimp -implicitDefEqProofs only [go_sem, ↓reduceIte, Nat.reduceEqDiff, Nat.reduceLT, Nat.reduceAdd, Nat.reduceMul, Nat.reduceLeDiff, Nat.le_refl, Int.natCast_zero, Int.toNat_natCast, Int.reduceToNat, *])
      ((repeat' (with_reducible refine And.intro ?_ ?_)); all_goals try (first | omega | (refine ⟨?_, ?_⟩ <;> omega) | (exact rfl)))
      (refine sCallX_one (hcn) ?_; try simp -dsimp -implicitDefEqProofs only [go_sem, ↓reduceIte, Nat.reduceEqDiff, Nat.reduceLT, Nat.reduceAdd, Nat.reduceMul, Nat.reduceLeDiff, Nat.le_refl, Int.natCast_zero, Int.toNat_natCast, Int.reduceToNat, *])
      ((repeat' (with_reducible refine And.intro ?_ ?_)); all_goals try (first | omega | (refine ⟨?_, ?_⟩ <;> omega) | (exact rfl)))
      (refine sCallX_one (hst) ?_; try simp -dsimp -implicitDefEqProofs only [go_sem, ↓reduceIte, Nat.reduceEqDiff, Nat.reduceLT, Nat.reduceAdd, Nat.reduceMul, Nat.reduceLeDiff, Nat.le_refl, Int.natCast_zero, Int.toNat_natCast, Int.reduceToNat, *])
      ((repeat' (with_reducible refine And.intro ?_ ?_)); all_goals try (first | omega | (refine ⟨?_, ?_⟩ <;> omega) | (exact rfl)))
      all_goals trace_state
    · rw [if_neg hf]
      have hz : (fault m key != 0) = true := bne_iff_ne.2 hf
      clear hm hf hc hcn
      generalize fault m key = F at *
      simp -dsimp -implicitDefEqProofs only [go_sem, ↓reduceIte, Nat.reduceEqDiff, Nat.reduceLT, Nat.reduceAdd, Nat.reduceMul, Nat.reduceLeDiff, Nat.le_refl, Int.natCast_zero, Int.toNat_natCast, Int.reduceToNat]
      repeat' (refine sCallT_one (hcode) ?_; try simp -dsimp -implicitDefEqProofs only [go_sem, ↓reduceIte, Nat.reduceEqDiff, Nat.reduceLT, Nat.reduceAdd, Nat.reduceMul, Nat.reduceLeDiff, Nat.le_refl, Int.natCast_zero, Int.toNat_natCast, Int.reduceToNat, *])
      repeat' (refine sCallT_one (hfa) ?_; try simp -dsimp -implicitDefEqProofs only [go_sem, ↓reduceIte, Nat.reduceEqDiff, Nat.reduceLT, Nat.reduceAdd, Nat.reduceMul, Nat.reduceLeDiff, Nat.le_refl, Int.natCast_zero, Int.toNat_natCast, Int.reduceToNat, *])
      all_goals trace_state
  · rw [if_neg hc]
    have hz : (codeO m se sec == 0) = false := beq_eq_false_iff_ne.2 hc
    have hz2 : (codeO m se sec != 0) = true := bne_iff_ne.2 hc
    clear hc
    generalize codeO m se sec = C at *
    simp -dsimp -implicitDefEqProofs only [go_sem, ↓reduceIte, Nat.reduceEqDiff, Nat.reduceLT, Nat.reduceAdd, Nat.reduceMul, Nat.reduceLeDiff, Nat.le_refl, Int.natCast_zero, Int.toNat_natCast, Int.reduceToNat]
    repeat' (refine sCallT_one (hcode) ?_; try simp -dsimp -implicitDefEqProofs only [go_sem, ↓reduceIte, Nat.reduceEqDiff, Nat.reduceLT, Nat.reduceAdd, Nat.reduceMul, Nat.reduceLeDiff, Nat.le_refl, Int.natCast_zero, Int.toNat_natCast, Int.reduceToNat, *])
    all_goals trace_state
end Go.Vc


/-
  Draws of stamps.
-/
set_option linter.unusedVariables false
set_option linter.unusedSimpArgs false
set_option linter.unnecessarySimpa false
namespace Go.Vc
open Go.Proofs Go.Lib
set_option maxRecDepth 100000
set_option maxHeartbeats 4000000
def serD (bs : List UInt8) (s : Src) : Int × Src := if (nx bs 20 s).1 = 0 then pk bs [-1, 25, 26] (nx bs 20 s).2 else nx bs 26 (nx bs 20 s).2
theorem serD_ok (bs : List UInt8) {s : Src} (h : SrcOk s) : SrcOk (serD bs s).2 ∧ -1 ≤ (serD bs s).1 ∧ (serD bs s).1 ≤ 26 := by
  have h1 := (nx_ok bs 20 h).2.2.2
  have h2 := nx_ok bs 26 h1
  unfold serD
  split
  · refine ⟨pk_ok _ _ h1, ?_⟩
    have := pk_mem bs h1 (xs := [-1, 25, 26]) (by simp)
    simp only [List.mem_cons, List.not_mem_nil, or_false] at this
    rcases this with h | h | h <;> omega
  · have := h2.2.2.1 (by omega)
    exact ⟨h2.2.2.2, by omega, by omega⟩
theorem c_l28DrawSeries (v : Nat) (bs : List UInt8) (s : Src) (h : SrcOk s) (hl : bs.length ≤ 4096) :
    FnM Tryz.prog 46 [srcB v bs s] [.ptr 1000000000 v 0 0] (fun x io => x = eI (serD bs s).1 ∧ io = [srcB v bs (serD bs s).2]) := by
  refine FnM.of_vcN 11 [.tmp 2] Tryz.func46 rfl rfl rfl rfl rfl (of_decide_eq_true rfl) ?_
  have h1 := nx_ok bs 20 h
  have q1 := fun v => c_l01Next v bs 20 _ h hl
  unfold serD
  generalize nx bs 20 s = a at *
  have h2 := nx_ok bs 26 h1.2.2.2
  have q2 := fun v => c_l01Next v bs 26 _ h1.2.2.2 hl
  have qp := fun v v2 => c_l01Pick v v2 true bs [-1, 25, 26] _ a.2 rfl (by simp) (by simp) h1.2.2.2 hl
  generalize nx bs 26 a.2 = b at *
  generalize pk bs [-1, 25, 26] a.2 = c at *
  simp -dsimp -implicitDefEqProofs only [go_sem, ↓reduceIte, Nat.reduceEqDiff, Nat.reduceLT, Nat.reduceAdd, Nat.reduceMul, Nat.reduceLeDiff, Nat.le_refl, Int.natCast_zero, Int.toNat_natCast, Int.reduceToNat]
  (refine sCallT_io [1000000000] ?_; simp -dsimp -implicitDefEqProofs only [go_sem, ↓reduceIte, Nat.reduceEqDiff, Nat.reduceLT, Nat.reduceAdd, Nat.reduceMul, Nat.reduceLeDiff, Nat.le_refl, Int.natCast_zero, Int.toNat_natCast, Int.reduceToNat]; refine sCallM_one (q1 _) ?_; simp -dsimp -implicitDefEqProofs only [go_sem, ↓reduceIte, Nat.reduceEqDiff, Nat.reduceLT, Nat.reduceAdd, Nat.reduceMul, Nat.reduceLeDiff, Nat.le_refl, Int.natCast_zero, Int.toNat_natCast, Int.reduceToNat])
  rcases b0 : (a.1 == 0) with _ | _
  · have e0 : ¬ a.1 = 0 := beq_eq_false_iff_ne.1 b0
    rw [if_neg e0]
    simp -dsimp -implicitDefEqProofs only [go_sem, ↓reduceIte, Nat.reduceEqDiff, Nat.reduceLT, Nat.reduceAdd, Nat.reduceMul, Nat.reduceLeDiff, Nat.le_refl, Int.natCast_zero, Int.toNat_natCast, Int.reduceToNat, b0]
    (refine sCallT_io [1000000000] ?_; simp -dsimp -implicitDefEqProofs only [go_sem, ↓reduceIte, Nat.reduceEqDiff, Nat.reduceLT, Nat.reduceAdd, Nat.reduceMul, Nat.reduceLeDiff, Nat.le_refl, Int.natCast_zero, Int.toNat_natCast, Int.reduceToNat]; refine sCallM_one (q2 _) ?_; simp -dsimp -implicitDefEqProofs only [go_sem, ↓reduceIte, Nat.reduceEqDiff, Nat.reduceLT, Nat.reduceAdd, Nat.reduceMul, Nat.reduceLeDiff, Nat.le_refl, Int.natCast_zero, Int.toNat_natCast, Int.reduceToNat])
  · have e0 : a.1 = 0 := beq_iff_eq.1 b0
    rw [if_pos e0]
    simp -dsimp -implicitDefEqProofs only [go_sem, ↓reduceIte, Nat.reduceEqDiff, Nat.reduceLT, Nat.reduceAdd, Nat.reduceMul, Nat.reduceLeDiff, Nat.le_refl, Int.natCast_zero, Int.toNat_natCast, Int.reduceToNat, b0]
    (refine sCallT_io [1000000000, 7] ?_; simp -dsimp -implicitDefEqProofs only [go_sem, ↓reduceIte, Nat.reduceEqDiff, Nat.reduceLT, Nat.reduceAdd, Nat.reduceMul, Nat.reduceLeDiff, Nat.le_refl, Int.natCast_zero, Int.toNat_natCast, Int.reduceToNat]; refine sCallM_one (qp _ _) ?_; simp -dsimp -implicitDefEqProofs only [go_sem, ↓reduceIte, Nat.reduceEqDiff, Nat.reduceLT, Nat.reduceAdd, Nat.reduceMul, Nat.reduceLeDiff, Nat.le_refl, Int.natCast_zero, Int.toNat_natCast, Int.reduceToNat])
def secD (bs : List UInt8) (m : MkM) (s : Src) : Int × Src :=
  if isMk m = true then (if (nx bs 20 s).1 = 0 then pk bs [-1, allN m, allN m - 1] (nx bs 20 s).2 else nx bs (allN m) (nx bs 20 s).2) else nx bs 5 s
theorem c_l28DrawSecret (v : Nat) (bs : List UInt8) (m : MkM) (s : Src) (h : SrcOk s) (hl : bs.length ≤ 4096) :
    FnM Tryz.prog 47 [srcB v bs s] [.ptr 1000000000 v 0 0, eMk m] (fun x io => x = eI (secD bs m s).1 ∧ io = [srcB v bs (secD bs m s).2]) := by
  refine FnM.of_vcN 25 [.tmp 4] Tryz.func47 rfl rfl rfl rfl rfl (of_decide_eq_true rfl) ?_
  have h1 := nx_ok bs 20 h
  have q0 := fun v => c_l01Next v bs 5 _ h hl
  have q1 := fun v => c_l01Next v bs 20 _ h hl
  have hmk := c_sIsMaker m
  unfold secD
  rcases hm : isMk m with _ | _
  · rw [hm] at hmk
    simp only [Bool.false_eq_true, if_false]
    clear hm q1
    generalize nx bs 5 s = a at *
    simp -dsimp -implicitDefEqProofs only [go_sem, ↓reduceIte, Nat.reduceEqDiff, Nat.reduceLT, Nat.reduceAdd, Nat.reduceMul, Nat.reduceLeDiff, Nat.le_refl, Int.natCast_zero, Int.toNat_natCast, Int.reduceToNat]
    repeat' (refine sCallT_one (hmk) ?_; try simp -dsimp -implicitDefEqProofs only [go_sem, ↓reduceIte, Nat.reduceEqDiff, Nat.reduceLT, Nat.reduceAdd, Nat.reduceMul, Nat.reduceLeDiff, Nat.le_refl, Int.natCast_zero, Int.toNat_natCast, Int.reduceToNat, *])
    (refine sCallT_io [1000000000] ?_; simp -dsimp -implicitDefEqProofs only [go_sem, ↓reduceIte, Nat.reduceEqDiff, Nat.reduceLT, Nat.reduceAdd, Nat.reduceMul, Nat.reduceLeDiff, Nat.le_refl, Int.natCast_zero, Int.toNat_natCast, Int.reduceToNat]; refine sCallM_one (q0 _) ?_; simp -dsimp -implicitDefEqProofs only [go_sem, ↓reduceIte, Nat.reduceEqDiff, Nat.reduceLT, Nat.reduceAdd, Nat.reduceMul, Nat.reduceLeDiff, Nat.le_refl, Int.natCast_zero, Int.toNat_natCast, Int.reduceToNat])
  · rw [hm] at hmk
    simp only [if_true]
    have hb := allN_bound hm
    have hcn := c_l02Count0 m hm
    have e : (cnt m m.chambers.toNat [] : Nat) = allN m := rfl
    rw [e] at hcn
    clear hm q0 e
    generalize allN m = N at *
    generalize nx bs 20 s = a at *
    have q2 := fun v => c_l01Next v bs N _ h1.2.2.2 hl
    have qp := fun v v2 => c_l01Pick v v2 true bs [-1, N, N - 1] _ a.2 rfl (by simp) (by simp) h1.2.2.2 hl
    generalize nx bs N a.2 = b at *
    generalize pk bs [-1, N, N - 1] a.2 = c at *
    simp -dsimp -implicitDefEqProofs only [go_sem, ↓reduceIte, Nat.reduceEqDiff, Nat.reduceLT, Nat.reduceAdd, Nat.reduceMul, Nat.reduceLeDiff, Nat.le_refl, Int.natCast_zero, Int.toNat_natCast, Int.reduceToNat]
    repeat' (refine sCallT_one (hmk) ?_; try simp -dsimp -implicitDefEqProofs only [go_sem, ↓reduceIte, Nat.reduceEqDiff, Nat.reduceLT, Nat.reduceAdd, Nat.reduceMul, Nat.reduceLeDiff, Nat.le_refl, Int.natCast_zero, Int.toNat_natCast, Int.reduceToNat, *])
    repeat' (refine sCallT_one (hcn) ?_; try simp -dsimp -implicitDefEqProofs only [go_sem, ↓reduceIte, Nat.reduceEqDiff, Nat.reduceLT, Nat.reduceAdd, Nat.reduceMul, Nat.reduceLeDiff, Nat.le_refl, Int.natCast_zero, Int.toNat_natCast, Int.reduceToNat, *])
    (refine sCallT_io [1000000000] ?_; simp -dsimp -implicitDefEqProofs only [go_sem, ↓reduceIte, Nat.reduceEqDiff, Nat.reduceLT, Nat.reduceAdd, Nat.reduceMul, Nat.reduceLeDiff, Nat.le_refl, Int.natCast_zero, Int.toNat_natCast, Int.reduceToNat]; refine sCallM_one (q1 _) ?_; simp -dsimp -implicitDefEqProofs only [go_sem, ↓reduceIte, Nat.reduceEqDiff, Nat.reduceLT, Nat.reduceAdd, Nat.reduceMul, Nat.reduceLeDiff, Nat.le_refl, Int.natCast_zero, Int.toNat_natCast, Int.reduceToNat])
    rcases b0 : (a.1 == 0) with _ | _
    · have e0 : ¬ a.1 = 0 := beq_eq_false_iff_ne.1 b0
      rw [if_neg e0]
      simp -dsimp -implicitDefEqProofs only [go_sem, ↓reduceIte, Nat.reduceEqDiff, Nat.reduceLT, Nat.reduceAdd, Nat.reduceMul, Nat.reduceLeDiff, Nat.le_refl, Int.natCast_zero, Int.toNat_natCast, Int.reduceToNat, b0]
      (refine sCallT_io [1000000000] ?_; simp -dsimp -implicitDefEqProofs only [go_sem, ↓reduceIte, Nat.reduceEqDiff, Nat.reduceLT, Nat.reduceAdd, Nat.reduceMul, Nat.reduceLeDiff, Nat.le_refl, Int.natCast_zero, Int.toNat_natCast, Int.reduceToNat]; refine sCallM_one (q2 _) ?_; simp -dsimp -implicitDefEqProofs only [go_sem, ↓reduceIte, Nat.reduceEqDiff, Nat.reduceLT, Nat.reduceAdd, Nat.reduceMul, Nat.reduceLeDiff, Nat.le_refl, Int.natCast_zero, Int.toNat_natCast, Int.reduceToNat])
    · have e0 : a.1 = 0 := beq_iff_eq.1 b0
      rw [if_pos e0]
      simp -dsimp -implicitDefEqProofs only [go_sem, ↓reduceIte, Nat.reduceEqDiff, Nat.reduceLT, Nat.reduceAdd, Nat.reduceMul, Nat.reduceLeDiff, Nat.le_refl, Int.natCast_zero, Int.toNat_natCast, Int.reduceToNat, b0]
      ((repeat' (with_reducible refine And.intro ?_ ?_)); all_goals try (first | omega | (refine ⟨?_, ?_⟩ <;> omega) | (exact rfl)))
      (refine sCallT_io [1000000000, 20] ?_; simp -dsimp -implicitDefEqProofs only [go_sem, ↓reduceIte, Nat.reduceEqDiff, Nat.reduceLT, Nat.reduceAdd, Nat.reduceMul, Nat.reduceLeDiff, Nat.le_refl, Int.natCast_zero, Int.toNat_natCast, Int.reduceToNat]; refine sCallM_one (qp _ _) ?_; simp -dsimp -implicitDefEqProofs only [go_sem, ↓reduceIte, Nat.reduceEqDiff, Nat.reduceLT, Nat.reduceAdd, Nat.reduceMul, Nat.reduceLeDiff, Nat.le_refl, Int.natCast_zero, Int.toNat_natCast, Int.reduceToNat])
def keyD (bs : List UInt8) (m : MkM) (s : Src) : List Int × Src :=
  if isMk m = true then (if (nx bs 12 (cutsD bs m s).2).1 = 0 then ((cutsD bs m s).1, (nx bs 12 (cutsD bs m s).2).2) else
    (someK m (cutsTo bs m.depths (nx bs 12 (cutsD bs m s).2).2 m.chambers.toNat).1, (cutsTo bs m.depths (nx bs 12 (cutsD bs m s).2).2 m.chambers.toNat).2)) else cutsD bs m s
theorem keyD_ok (bs : List UInt8) {m : MkM} (hb : MkB m) {s : Src} (h : SrcOk s) : SrcOk (keyD bs m s).2 ∧ (keyD bs m s).1.length ≤ 20 := by
  have hc := hb.c
  have hcl := (cutsD_ok (bs := bs) hb h).2
  have hco := (cutsD_ok (bs := bs) hb h).1
  unfold keyD
  split
  · rename_i hm
    have o1 := (nx_ok bs 12 hco).2.2.2
    split
    · exact ⟨o1, by dsimp only; omega⟩
    · have hn := isMk_num hm
      have hct := cutsTo_ok (bs := bs) (D := m.depths) o1 (by omega) m.chambers.toNat
      obtain ⟨k1, k2, k3⟩ := hct
      have := someK_ok hm (c := (cutsTo bs m.depths (nx bs 12 (cutsD bs m s).2).2 m.chambers.toNat).1) (by omega) k3
      exact ⟨k1, by dsimp only; omega⟩
  · exact ⟨hco, by omega⟩
theorem c_l02DrawKey (v : Nat) (bs : List UInt8) (m : MkM) (s : Src) (hb : MkB m) (h : SrcOk s) (hl : bs.length ≤ 4096) :
    FnMR Tryz.prog 45 [srcB v bs s] [.ptr 1000000000 v 0 0, eMk m] (fun x io => x = eIs (keyD bs m s).1 ∧ io = [srcB v bs (keyD bs m s).2]) := by
  refine FnMR.of_vc 21 [.tmp 4] Tryz.func45 rfl rfl rfl rfl rfl (of_decide_eq_true rfl) ?_
  have q1 := fun v => c_l02DrawCuts v bs m _ hb h hl
  have hco := (cutsD_ok (bs := bs) hb h).1
  have hmk := c_sIsMaker m
  unfold keyD
  generalize cutsD bs m s = a at *
  rcases hm : isMk m with _ | _
  · rw [hm] at hmk
    simp only [Bool.false_eq_true, if_false]
    clear hm
    simp -dsimp -implicitDefEqProofs only [go_sem, ↓reduceIte, Nat.reduceEqDiff, Nat.reduceLT, Nat.reduceAdd, Nat.reduceMul, Nat.reduceLeDiff, Nat.le_refl, Int.natCast_zero, Int.toNat_natCast, Int.reduceToNat]
    (refine sCallT_io [1000000000] ?_; simp -dsimp -implicitDefEqProofs only [go_sem, ↓reduceIte, Nat.reduceEqDiff, Nat.reduceLT, Nat.reduceAdd, Nat.reduceMul, Nat.reduceLeDiff, Nat.le_refl, Int.natCast_zero, Int.toNat_natCast, Int.reduceToNat]; refine sCallM_one (q1 _) ?_; simp -dsimp -implicitDefEqProofs only [go_sem, ↓reduceIte, Nat.reduceEqDiff, Nat.reduceLT, Nat.reduceAdd, Nat.reduceMul, Nat.reduceLeDiff, Nat.le_refl, Int.natCast_zero, Int.toNat_natCast, Int.reduceToNat])
    repeat' (refine sCallT_one (hmk) ?_; try simp -dsimp -implicitDefEqProofs only [go_sem, ↓reduceIte, Nat.reduceEqDiff, Nat.reduceLT, Nat.reduceAdd, Nat.reduceMul, Nat.reduceLeDiff, Nat.le_refl, Int.natCast_zero, Int.toNat_natCast, Int.reduceToNat, *])
  · have o1 := nx_ok bs 12 hco
    have q2 := fun v => c_l01Next v bs 12 _ hco hl
    generalize nx bs 12 a.2 = b at *
    have q3 := fun v => c_l02Some v bs b.2 m o1.2.2.2 hm hl
    rw [hm] at hmk
    simp only [if_true]
    generalize cutsTo bs m.depths b.2 m.chambers.toNat = c at *
    clear hm
    generalize someK m c.1 = K at *
    simp -dsimp -implicitDefEqProofs only [go_sem, ↓reduceIte, Nat.reduceEqDiff, Nat.reduceLT, Nat.reduceAdd, Nat.reduceMul, Nat.reduceLeDiff, Nat.le_refl, Int.natCast_zero, Int.toNat_natCast, Int.reduceToNat]
    (refine sCallT_io [1000000000] ?_; simp -dsimp -implicitDefEqProofs only [go_sem, ↓reduceIte, Nat.reduceEqDiff, Nat.reduceLT, Nat.reduceAdd, Nat.reduceMul, Nat.reduceLeDiff, Nat.le_refl, Int.natCast_zero, Int.toNat_natCast, Int.reduceToNat]; refine sCallM_one (q1 _) ?_; simp -dsimp -implicitDefEqProofs only [go_sem, ↓reduceIte, Nat.reduceEqDiff, Nat.reduceLT, Nat.reduceAdd, Nat.reduceMul, Nat.reduceLeDiff, Nat.le_refl, Int.natCast_zero, Int.toNat_natCast, Int.reduceToNat])
    repeat' (refine sCallT_one (hmk) ?_; try simp -dsimp -implicitDefEqProofs only [go_sem, ↓reduceIte, Nat.reduceEqDiff, Nat.reduceLT, Nat.reduceAdd, Nat.reduceMul, Nat.reduceLeDiff, Nat.le_refl, Int.natCast_zero, Int.toNat_natCast, Int.reduceToNat, *])
    rcases b0 : (b.1 == 0) with _ | _
    · have e0 : ¬ b.1 = 0 := beq_eq_false_iff_ne.1 b0
      rw [if_neg e0]
      (refine sCallT_io [1000000000] ?_; simp -dsimp -implicitDefEqProofs only [go_sem, ↓reduceIte, Nat.reduceEqDiff, Nat.reduceLT, Nat.reduceAdd, Nat.reduceMul, Nat.reduceLeDiff, Nat.le_refl, Int.natCast_zero, Int.toNat_natCast, Int.reduceToNat]; refine sCallM_one (q2 _) ?_; simp -dsimp -implicitDefEqProofs only [go_sem, ↓reduceIte, Nat.reduceEqDiff, Nat.reduceLT, Nat.reduceAdd, Nat.reduceMul, Nat.reduceLeDiff, Nat.le_refl, Int.natCast_zero, Int.toNat_natCast, Int.reduceToNat])
      simp -dsimp -implicitDefEqProofs only [go_sem, ↓reduceIte, Nat.reduceEqDiff, Nat.reduceLT, Nat.reduceAdd, Nat.reduceMul, Nat.reduceLeDiff, Nat.le_refl, Int.natCast_zero, Int.toNat_natCast, Int.reduceToNat, b0]
      refine sCallT_ioR [1000000000] ?_
      simp -dsimp -implicitDefEqProofs only [go_sem, ↓reduceIte, Nat.reduceEqDiff, Nat.reduceLT, Nat.reduceAdd, Nat.reduceMul, Nat.reduceLeDiff, Nat.le_refl, Int.natCast_zero, Int.toNat_natCast, Int.reduceToNat]
      refine sCallMR_any (q3 _) ?_
      rintro _ _ ⟨rfl, rfl⟩
      simp -dsimp -implicitDefEqProofs only [go_sem, ↓reduceIte, Nat.reduceEqDiff, Nat.reduceLT, Nat.reduceAdd, Nat.reduceMul, Nat.reduceLeDiff, Nat.le_refl, Int.natCast_zero, Int.toNat_natCast, Int.reduceToNat]
    · have e0 : b.1 = 0 := beq_iff_eq.1 b0
      rw [if_pos e0]
      (refine sCallT_io [1000000000] ?_; simp -dsimp -implicitDefEqProofs only [go_sem, ↓reduceIte, Nat.reduceEqDiff, Nat.reduceLT, Nat.reduceAdd, Nat.reduceMul, Nat.reduceLeDiff, Nat.le_refl, Int.natCast_zero, Int.toNat_natCast, Int.reduceToNat]; refine sCallM_one (q2 _) ?_; simp -dsimp -implicitDefEqProofs only [go_sem, ↓reduceIte, Nat.reduceEqDiff, Nat.reduceLT, Nat.reduceAdd, Nat.reduceMul, Nat.reduceLeDiff, Nat.le_refl, Int.natCast_zero, Int.toNat_natCast, Int.reduceToNat])
      simp -dsimp -implicitDefEqProofs only [go_sem, ↓reduceIte, Nat.reduceEqDiff, Nat.reduceLT, Nat.reduceAdd, Nat.reduceMul, Nat.reduceLeDiff, Nat.le_refl, Int.natCast_zero, Int.toNat_natCast, Int.reduceToNat, b0]
def stT (bs : List UInt8) (m : MkM) (a b c d : Int × Src) : List UInt8 × Src :=
  if d.1 = 0 then damage bs (stampS (itoa (allN m)).length a.1 c.1) d.2 else (stampS (itoa (allN m)).length a.1 c.1, d.2)
def stC (bs : List UInt8) (m : MkM) (a b : Int × Src) : List UInt8 × Src :=
  stT bs m a b (nx bs (allN m + b.1.tdiv 11) b.2) (nx bs 3 (nx bs (allN m + b.1.tdiv 11) b.2).2)
def stB (bs : List UInt8) (m : MkM) (s : Src) : List UInt8 × Src :=
  if isMk m = true then stC bs m (nx bs 26 s) (nx bs 12 (nx bs 26 s).2) else ([65, 48, 45, 48, 48], s)
def stD (bs : List UInt8) (s : Src) : MkM × List UInt8 × Src := ((mkD bs s).1, stB bs (mkD bs s).1 (mkD bs s).2)
theorem tdiv_11 {x : Int} (h : 0 ≤ x ∧ x < 12) : 0 ≤ x.tdiv 11 ∧ x.tdiv 11 ≤ 1 := by
  rw [Int.tdiv_eq_ediv_of_nonneg h.1]; omega
theorem stampS_len8 {w : Nat} {se n : Int} (hw : w ≤ 6) (hse : 0 ≤ se ∧ se ≤ 25) (hn : 0 ≤ n ∧ n ≤ 1000000) : (stampS w se n).length ≤ 1000 := by
  have h1 : (itoa n).length ≤ 7 := by rw [itoa_of_nonneg (by omega)]; exact dec_len_le 6 _ (by omega)
  have h2 : (itoa (chk se n)).length ≤ 21 := by
    have := chk_bound hse hn
    exact itoa_length_le _ (by omega) (by omega)
  simp only [stampS, padS, List.length_append, List.length_cons, List.length_nil, List.length_replicate]
  omega
theorem stB_ok (bs : List UInt8) {m : MkM} {s : Src} (h : SrcOk s) : SrcOk (stB bs m s).2 ∧ (stB bs m s).1.length ≤ 1001 := by
  unfold stB
  split
  · rename_i hm
    have hb := allN_bound hm
    have hw6 : (itoa (allN m)).length ≤ 6 := by rw [itoa_of_nonneg (by omega)]; exact dec_len_le 5 _ (by omega)
    have h1 := nx_ok bs 26 h
    generalize nx bs 26 s = a at *
    have h2 := nx_ok bs 12 h1.2.2.2
    generalize nx bs 12 a.2 = b at *
    unfold stC
    have hd := tdiv_11 (x := b.1) ⟨h2.1, h2.2.2.1 (by omega)⟩
    have h3 := nx_ok bs (allN m + b.1.tdiv 11) h2.2.2.2
    have h3' : (nx bs (allN m + b.1.tdiv 11) b.2).1 ≤ 262145 := by
      by_cases hz : allN m + b.1.tdiv 11 ≤ 1
      · rw [h3.2.1 hz]; omega
      · have := h3.2.2.1 (by omega); omega
    generalize nx bs (allN m + b.1.tdiv 11) b.2 = c at *
    have h4 := nx_ok bs 3 h3.2.2.2
    generalize nx bs 3 c.2 = d at *
    have hl := stampS_len8 (w := (itoa (allN m)).length) (se := a.1) (n := c.1) hw6 ⟨h1.1, by have := h1.2.2.1 (by omega); omega⟩ (by omega)
    unfold stT
    split
    · have := damage_ok bs (stampS (itoa (allN m)).length a.1 c.1) h4.2.2.2
      exact ⟨this.1, by omega⟩
    · exact ⟨h4.2.2.2, by dsimp only; omega⟩
  · exact ⟨h, by simp⟩
theorem c_l28Draw (v : Nat) (bs : List UInt8) (s : Src) (h : SrcOk s) (hl : bs.length ≤ 4096) :
    FnM Tryz.prog 57 [srcB v bs s] [.ptr 1000000000 v 0 0] (fun x io => x = .tup [eMk (stD bs s).1, eS (stD bs s).2.1] ∧ io = [srcB v bs (stD bs s).2.2]) := by
  refine FnM.of_vcN 33 [.cell 2 25, .tmp 3] Tryz.func57 rfl rfl rfl rfl rfl (of_decide_eq_true rfl) ?_
  have q0 := fun v => c_l02Draw v bs s h hl
  have o0 := mkD_ok bs h
  unfold stD
  generalize mkD bs s = p at *
  obtain ⟨m, s1⟩ := p
  dsimp only at o0 q0 ⊢
  have hmk := c_sIsMaker m
  unfold stB
  rcases hm : isMk m with _ | _
  · rw [hm] at hmk
    simp only [Bool.false_eq_true, if_false]
    clear hm
    simp -dsimp -implicitDefEqProofs only [go_sem, ↓reduceIte, Nat.reduceEqDiff, Nat.reduceLT, Nat.reduceAdd, Nat.reduceMul, Nat.reduceLeDiff, Nat.le_refl, Int.natCast_zero, Int.toNat_natCast, Int.reduceToNat]
    (refine sCallT_io [1000000000] ?_; simp -dsimp -implicitDefEqProofs only [go_sem, ↓reduceIte, Nat.reduceEqDiff, Nat.reduceLT, Nat.reduceAdd, Nat.reduceMul, Nat.reduceLeDiff, Nat.le_refl, Int.natCast_zero, Int.toNat_natCast, Int.reduceToNat]; refine sCallM_one (q0 _) ?_; simp -dsimp -implicitDefEqProofs only [go_sem, ↓reduceIte, Nat.reduceEqDiff, Nat.reduceLT, Nat.reduceAdd, Nat.reduceMul, Nat.reduceLeDiff, Nat.le_refl, Int.natCast_zero, Int.toNat_natCast, Int.reduceToNat])
    repeat' (refine sCallT_one (hmk) ?_; try simp -dsimp -implicitDefEqProofs only [go_sem, ↓reduceIte, Nat.reduceEqDiff, Nat.reduceLT, Nat.reduceAdd, Nat.reduceMul, Nat.reduceLeDiff, Nat.le_refl, Int.natCast_zero, Int.toNat_natCast, Int.reduceToNat, *])
  · rw [hm] at hmk
    simp only [if_true]
    have hb := allN_bound hm
    have hw6 : (itoa (allN m)).length ≤ 6 := by rw [itoa_of_nonneg (by omega)]; exact dec_len_le 5 _ (by omega)
    have h1 := nx_ok bs 26 o0
    have q1 := fun v => c_l01Next v bs 26 _ o0 hl
    generalize nx bs 26 s1 = a at *
    have h2 := nx_ok bs 12 h1.2.2.2
    have q2 := fun v => c_l01Next v bs 12 _ h1.2.2.2 hl
    generalize nx bs 12 a.2 = b at *
    unfold stC
    have hd := tdiv_11 (x := b.1) ⟨h2.1, h2.2.2.1 (by omega)⟩
    have h3 := nx_ok bs (allN m + b.1.tdiv 11) h2.2.2.2
    have q3 := fun v => c_l01Next v bs (allN m + b.1.tdiv 11) _ h2.2.2.2 hl
    have h3' : (nx bs (allN m + b.1.tdiv 11) b.2).1 ≤ 262145 := by
      by_cases hz : allN m + b.1.tdiv 11 ≤ 1
      · rw [h3.2.1 hz]; omega
      · have := h3.2.2.1 (by omega); omega
    generalize nx bs (allN m + b.1.tdiv 11) b.2 = c at *
    have h4 := nx_ok bs 3 h3.2.2.2
    have q4 := fun v => c_l01Next v bs 3 _ h3.2.2.2 hl
    generalize nx bs 3 c.2 = d at *
    have ha : 0 ≤ a.1 ∧ a.1 ≤ 25 := ⟨h1.1, by have := h1.2.2.1 (by omega); omega⟩
    have hln := stampS_len8 (w := (itoa (allN m)).length) (se := a.1) (n := c.1) hw6 ha (by omega)
    have htx := c_l28Text m hm a.1 c.1 ha (by omega)
    have hcn := c_l02Count0 m hm
    have e : (cnt m m.chambers.toNat [] : Nat) = allN m := rfl
    rw [e] at hcn htx
    have qd := fun v => c_l01Damage v bs (stampS (itoa (allN m)).length a.1 c.1) d.2 h4.2.2.2 hl (by omega)
    unfold stT
    generalize stampS (itoa (allN m)).length a.1 c.1 = T at *
    generalize damage bs T d.2 = D at *
    have hx := h2.2.2.1 (by omega)
    clear hm e hw6
    generalize allN m = N at *
    simp -dsimp -implicitDefEqProofs only [go_sem, ↓reduceIte, Nat.reduceEqDiff, Nat.reduceLT, Nat.reduceAdd, Nat.reduceMul, Nat.reduceLeDiff, Nat.le_refl, Int.natCast_zero, Int.toNat_natCast, Int.reduceToNat]
    (refine sCallT_io [1000000000] ?_; simp -dsimp -implicitDefEqProofs only [go_sem, ↓reduceIte, Nat.reduceEqDiff, Nat.reduceLT, Nat.reduceAdd, Nat.reduceMul, Nat.reduceLeDiff, Nat.le_refl, Int.natCast_zero, Int.toNat_natCast, Int.reduceToNat]; refine sCallM_one (q0 _) ?_; simp -dsimp -implicitDefEqProofs only [go_sem, ↓reduceIte, Nat.reduceEqDiff, Nat.reduceLT, Nat.reduceAdd, Nat.reduceMul, Nat.reduceLeDiff, Nat.le_refl, Int.natCast_zero, Int.toNat_natCast, Int.reduceToNat])
    repeat' (refine sCallT_one (hmk) ?_; try simp -dsimp -implicitDefEqProofs only [go_sem, ↓reduceIte, Nat.reduceEqDiff, Nat.reduceLT, Nat.reduceAdd, Nat.reduceMul, Nat.reduceLeDiff, Nat.le_refl, Int.natCast_zero, Int.toNat_natCast, Int.reduceToNat, *])
    refine Later.draw mixed rfl ?_
    simp -dsimp -implicitDefEqProofs only [go_sem, ↓reduceIte, Nat.reduceEqDiff, Nat.reduceLT, Nat.reduceAdd, Nat.reduceMul, Nat.reduceLeDiff, Nat.le_refl, Int.natCast_zero, Int.toNat_natCast, Int.reduceToNat]
    (refine sCallX_io [1000000000] rfl ?_; simp -dsimp -implicitDefEqProofs only [go_sem, ↓reduceIte, Nat.reduceEqDiff, Nat.reduceLT, Nat.reduceAdd, Nat.reduceMul, Nat.reduceLeDiff, Nat.le_refl, Int.natCast_zero, Int.toNat_natCast, Int.reduceToNat]; refine sCallMX_one (q1 _) ?_; simp -dsimp -implicitDefEqProofs only [go_sem, ↓reduceIte, Nat.reduceEqDiff, Nat.reduceLT, Nat.reduceAdd, Nat.reduceMul, Nat.reduceLeDiff, Nat.le_refl, Int.natCast_zero, Int.toNat_natCast, Int.reduceToNat])
    refine sCallX_one hcn ?_
    simp -dsimp -implicitDefEqProofs only [go_sem, ↓reduceIte, Nat.reduceEqDiff, Nat.reduceLT, Nat.reduceAdd, Nat.reduceMul, Nat.reduceLeDiff, Nat.le_refl, Int.natCast_zero, Int.toNat_natCast, Int.reduceToNat]
    (refine sCallX_io [1000000000] rfl ?_; simp -dsimp -implicitDefEqProofs only [go_sem, ↓reduceIte, Nat.reduceEqDiff, Nat.reduceLT, Nat.reduceAdd, Nat.reduceMul, Nat.reduceLeDiff, Nat.le_refl, Int.natCast_zero, Int.toNat_natCast, Int.reduceToNat]; refine sCallMX_one (q2 _) ?_; simp -dsimp -implicitDefEqProofs only [go_sem, ↓reduceIte, Nat.reduceEqDiff, Nat.reduceLT, Nat.reduceAdd, Nat.reduceMul, Nat.reduceLeDiff, Nat.le_refl, Int.natCast_zero, Int.toNat_natCast, Int.reduceToNat])
    ((repeat' (with_reducible refine And.intro ?_ ?_)); all_goals try (first | omega | (refine ⟨?_, ?_⟩ <;> omega) | (exact rfl)))
    (refine sCallX_io [1000000000] rfl ?_; simp -dsimp -implicitDefEqProofs only [go_sem, ↓reduceIte, Nat.reduceEqDiff, Nat.reduceLT, Nat.reduceAdd, Nat.reduceMul, Nat.reduceLeDiff, Nat.le_refl, Int.natCast_zero, Int.toNat_natCast, Int.reduceToNat]; refine sCallMX_one (q3 _) ?_; simp -dsimp -implicitDefEqProofs only [go_sem, ↓reduceIte, Nat.reduceEqDiff, Nat.reduceLT, Nat.reduceAdd, Nat.reduceMul, Nat.reduceLeDiff, Nat.le_refl, Int.natCast_zero, Int.toNat_natCast, Int.reduceToNat])
    ((repeat' (with_reducible refine And.intro ?_ ?_)); all_goals try (first | omega | (refine ⟨?_, ?_⟩ <;> omega) | (exact rfl)))
    refine sCallX_one htx ?_
    simp -dsimp -implicitDefEqProofs only [go_sem, ↓reduceIte, Nat.reduceEqDiff, Nat.reduceLT, Nat.reduceAdd, Nat.reduceMul, Nat.reduceLeDiff, Nat.le_refl, Int.natCast_zero, Int.toNat_natCast, Int.reduceToNat]
    ((repeat' (with_reducible refine And.intro ?_ ?_)); all_goals try (first | omega | (refine ⟨?_, ?_⟩ <;> omega) | (exact rfl)))
    (refine sCallT_io [1000000000] ?_; simp -dsimp -implicitDefEqProofs only [go_sem, ↓reduceIte, Nat.reduceEqDiff, Nat.reduceLT, Nat.reduceAdd, Nat.reduceMul, Nat.reduceLeDiff, Nat.le_refl, Int.natCast_zero, Int.toNat_natCast, Int.reduceToNat]; refine sCallM_one (q4 _) ?_; simp -dsimp -implicitDefEqProofs only [go_sem, ↓reduceIte, Nat.reduceEqDiff, Nat.reduceLT, Nat.reduceAdd, Nat.reduceMul, Nat.reduceLeDiff, Nat.le_refl, Int.natCast_zero, Int.toNat_natCast, Int.reduceToNat])
    rcases b0 : (d.1 == 0) with _ | _
    · have e0 : ¬ d.1 = 0 := beq_eq_false_iff_ne.1 b0
      rw [if_neg e0]
      simp -dsimp -implicitDefEqProofs only [go_sem, ↓reduceIte, Nat.reduceEqDiff, Nat.reduceLT, Nat.reduceAdd, Nat.reduceMul, Nat.reduceLeDiff, Nat.le_refl, Int.natCast_zero, Int.toNat_natCast, Int.reduceToNat, b0]
    · have e0 : d.1 = 0 := beq_iff_eq.1 b0
      rw [if_pos e0]
      simp -dsimp -implicitDefEqProofs only [go_sem, ↓reduceIte, Nat.reduceEqDiff, Nat.reduceLT, Nat.reduceAdd, Nat.reduceMul, Nat.reduceLeDiff, Nat.le_refl, Int.natCast_zero, Int.toNat_natCast, Int.reduceToNat, b0]
      refine Later.draw mixed rfl ?_
      simp -dsimp -implicitDefEqProofs only [go_sem, ↓reduceIte, Nat.reduceEqDiff, Nat.reduceLT, Nat.reduceAdd, Nat.reduceMul, Nat.reduceLeDiff, Nat.le_refl, Int.natCast_zero, Int.toNat_natCast, Int.reduceToNat]
      (refine sCallX_io [1000000000] rfl ?_; simp -dsimp -implicitDefEqProofs only [go_sem, ↓reduceIte, Nat.reduceEqDiff, Nat.reduceLT, Nat.reduceAdd, Nat.reduceMul, Nat.reduceLeDiff, Nat.le_refl, Int.natCast_zero, Int.toNat_natCast, Int.reduceToNat]; refine sCallMX_one (qd _) ?_; simp -dsimp -implicitDefEqProofs only [go_sem, ↓reduceIte, Nat.reduceEqDiff, Nat.reduceLT, Nat.reduceAdd, Nat.reduceMul, Nat.reduceLeDiff, Nat.le_refl, Int.natCast_zero, Int.toNat_natCast, Int.reduceToNat])
      exact rfl
end Go.Vc


/-
  Draws of the laws on stamps.
-/
set_option linter.unusedVariables false
set_option linter.unusedSimpArgs false
set_option linter.unnecessarySimpa false
namespace Go.Vc
open Go.Proofs Go.Lib
set_option maxRecDepth 100000
set_option maxHeartbeats 4000000
structure StO where
  m : MkM
  key : List Int
  se : Int
  sec : Int
def stOD4 (bs : List UInt8) (p : MkM × Src) (k : List Int × Src) (a : Int × Src) : StO := ⟨p.1, k.1, a.1, (secD bs p.1 a.2).1⟩
def stOD3 (bs : List UInt8) (p : MkM × Src) (k : List Int × Src) : StO := stOD4 bs p k (serD bs k.2)
def stOD (bs : List UInt8) (s : Src) : StO := stOD3 bs (mkD bs s) (keyD bs (mkD bs s).1 (mkD bs s).2)
theorem c_DrawStampOf (bs : List UInt8) (hl : bs.length ≤ 4096) : Fn Tryz.prog 7 [eYs bs] false (· = .tup [eMk (stOD bs (src0 bs)).m, eIs (stOD bs (src0 bs)).key, eI (stOD bs (src0 bs)).se, eI (stOD bs (src0 bs)).sec]) := by
  refine Fn.of_vcS 25 [.cell 2 25, .tmp 3, .tmp 4, .tmp 5] Tryz.func7 rfl rfl rfl rfl rfl (of_decide_eq_true rfl) ?_
  simp -dsimp -implicitDefEqProofs only [go_sem, ↓reduceIte, Nat.reduceEqDiff, Nat.reduceLT, Nat.reduceAdd, Nat.reduceMul, Nat.reduceLeDiff, Nat.le_refl, Int.natCast_zero, Int.toNat_natCast, Int.reduceToNat]
  (refine sCallT_inl 900000 34 [.tmp 2] Tryz.func43 rfl rfl rfl rfl rfl (by exact of_decide_eq_true rfl) ?_; simp -dsimp -implicitDefEqProofs only [go_sem, ↓reduceIte, Nat.reduceEqDiff, Nat.reduceLT, Nat.reduceAdd, Nat.reduceMul, Nat.reduceLeDiff, Nat.le_refl, Int.natCast_zero, Int.toNat_natCast, Int.reduceToNat]; refine Later.up [0, 3] [10] [7] (min bs.length 64) (fun _ => True) (fun i => [(4, eI i)]) (fun i => [(7, srcB 0 bs ⟨seedAt bs i, 0⟩)]) trivial ?_ rfl (fun i hi _ => ?_) (fun _ => ?_))
  · simp -dsimp -implicitDefEqProofs only [go_sem, ↓reduceIte, Nat.reduceEqDiff, Nat.reduceLT, Nat.reduceAdd, Nat.reduceMul, Nat.reduceLeDiff, Nat.le_refl, Int.natCast_zero, Int.toNat_natCast, Int.reduceToNat]
    simp [seedAt]
  · ((have h1 : i < bs.length := by omega); (have h2 : i < 64 := by omega); (have hs := seedAt_ok bs i); (have hb := (bs[i]).toNat_lt); (have d1 := lt_len h1); (have d2 : decide ((i : Int) < 64) = true := decide_eq_true (by omega)); (have g1 := get_some h1); (have e1 := seedAt_succ h1); simp -dsimp -implicitDefEqProofs only [pick_nil, pick_cons, look_nil, look_cons, dropB_nil, dropB_cons, inD_nil, inD_cons, inE_nil, inE_cons, or_t_l, or_f_l, Nat.reduceBEq, Nat.reduceDiv, Nat.reduceAdd, beq_self_eq_true, Bool.false_eq_true, Bool.or_false, ↓reduceIte, Nat.reduceEqDiff, List.cons_append, List.nil_append]; rw [e1]; generalize bs[i] = b at *; generalize seedAt bs i = z at *; simp -dsimp -implicitDefEqProofs only [go_sem, ↓reduceIte, Nat.reduceEqDiff, Nat.reduceLT, Nat.reduceAdd, Nat.reduceMul, Nat.reduceLeDiff, Nat.le_refl, Int.natCast_zero, Int.toNat_natCast, Int.reduceToNat, d1, d2]; refine Later.draw mixed rfl ?_; simp -dsimp -implicitDefEqProofs only [go_sem, ↓reduceIte, Nat.reduceEqDiff, Nat.reduceLT, Nat.reduceAdd, Nat.reduceMul, Nat.reduceLeDiff, Nat.le_refl, Int.natCast_zero, Int.toNat_natCast, Int.reduceToNat, g1]; (repeat' (with_reducible refine And.intro ?_ ?_)); all_goals (first | omega | (refine ⟨?_, ?_⟩ <;> omega) | (exact rfl) | (simp; done) | trace_state))
  (have hs := src0_ok bs); (have hq : (⟨seedAt bs (min bs.length 64), 0⟩ : Src) = src0 bs := rfl); rw [hq]; clear hq; generalize src0 bs = s at *; (have d64 : decide (((64 : Nat) : Int) < 64) = false := rfl)
  have o0 := mkD_ok bs hs
  have hb := mkD_bnd bs hs
  have q0 := fun v => c_l02Draw v bs s hs hl
  unfold stOD
  generalize mkD bs s = p at *
  have o1 := (keyD_ok bs hb o0).1
  have q1 := fun v => c_l02DrawKey v bs p.1 p.2 hb o0 hl
  generalize keyD bs p.1 p.2 = k at *
  unfold stOD3
  have o2 := (serD_ok bs o1).1
  have q2 := fun v => c_l28DrawSeries v bs k.2 o1 hl
  generalize serD bs k.2 = a at *
  unfold stOD4
  have q3 := fun v => c_l28DrawSecret v bs p.1 a.2 o2 hl
  generalize secD bs p.1 a.2 = b at *
  rcases Nat.lt_or_ge 64 bs.length with h64 | h64
  case' inl => (rw [Nat.min_eq_right (Nat.le_of_lt h64)]; simp -dsimp -implicitDefEqProofs only [pick_nil, pick_cons, look_nil, look_cons, dropB_nil, dropB_cons, inD_nil, inD_cons, inE_nil, inE_cons, or_t_l, or_f_l, Nat.reduceBEq, Nat.reduceDiv, Nat.reduceAdd, beq_self_eq_true, Bool.false_eq_true, Bool.or_false, ↓reduceIte, Nat.reduceEqDiff, List.cons_append, List.nil_append]; simp -dsimp -implicitDefEqProofs only [go_sem, ↓reduceIte, Nat.reduceEqDiff, Nat.reduceLT, Nat.reduceAdd, Nat.reduceMul, Nat.reduceLeDiff, Nat.le_refl, Int.natCast_zero, Int.toNat_natCast, Int.reduceToNat, lt_len h64, d64])
  case' inr => (rw [Nat.min_eq_left h64]; simp -dsimp -implicitDefEqProofs only [pick_nil, pick_cons, look_nil, look_cons, dropB_nil, dropB_cons, inD_nil, inD_cons, inE_nil, inE_cons, or_t_l, or_f_l, Nat.reduceBEq, Nat.reduceDiv, Nat.reduceAdd, beq_self_eq_true, Bool.false_eq_true, Bool.or_false, ↓reduceIte, Nat.reduceEqDiff, List.cons_append, List.nil_append]; simp -dsimp -implicitDefEqProofs only [go_sem, ↓reduceIte, Nat.reduceEqDiff, Nat.reduceLT, Nat.reduceAdd, Nat.reduceMul, Nat.reduceLeDiff, Nat.le_refl, Int.natCast_zero, Int.toNat_natCast, Int.reduceToNat, nlt_len])
  all_goals
    (refine sCallT_io [900007] ?_; simp -dsimp -implicitDefEqProofs only [go_sem, ↓reduceIte, Nat.reduceEqDiff, Nat.reduceLT, Nat.reduceAdd, Nat.reduceMul, Nat.reduceLeDiff, Nat.le_refl, Int.natCast_zero, Int.toNat_natCast, Int.reduceToNat]; refine sCallM_one (q0 _) ?_; simp -dsimp -implicitDefEqProofs only [go_sem, ↓reduceIte, Nat.reduceEqDiff, Nat.reduceLT, Nat.reduceAdd, Nat.reduceMul, Nat.reduceLeDiff, Nat.le_refl, Int.natCast_zero, Int.toNat_natCast, Int.reduceToNat])
    refine sCallT_ioR [900007] ?_
    simp -dsimp -implicitDefEqProofs only [go_sem, ↓reduceIte, Nat.reduceEqDiff, Nat.reduceLT, Nat.reduceAdd, Nat.reduceMul, Nat.reduceLeDiff, Nat.le_refl, Int.natCast_zero, Int.toNat_natCast, Int.reduceToNat]
    refine sCallMR_any (q1 _) ?_
    rintro _ _ ⟨rfl, rfl⟩
    simp -dsimp -implicitDefEqProofs only [go_sem, ↓reduceIte, Nat.reduceEqDiff, Nat.reduceLT, Nat.reduceAdd, Nat.reduceMul, Nat.reduceLeDiff, Nat.le_refl, Int.natCast_zero, Int.toNat_natCast, Int.reduceToNat]
    (refine sCallT_io [900007] ?_; simp -dsimp -implicitDefEqProofs only [go_sem, ↓reduceIte, Nat.reduceEqDiff, Nat.reduceLT, Nat.reduceAdd, Nat.reduceMul, Nat.reduceLeDiff, Nat.le_refl, Int.natCast_zero, Int.toNat_natCast, Int.reduceToNat]; refine sCallM_one (q2 _) ?_; simp -dsimp -implicitDefEqProofs only [go_sem, ↓reduceIte, Nat.reduceEqDiff, Nat.reduceLT, Nat.reduceAdd, Nat.reduceMul, Nat.reduceLeDiff, Nat.le_refl, Int.natCast_zero, Int.toNat_natCast, Int.reduceToNat])
    refine Later.draw mixed rfl ?_
    simp -dsimp -implicitDefEqProofs only [go_sem, ↓reduceIte, Nat.reduceEqDiff, Nat.reduceLT, Nat.reduceAdd, Nat.reduceMul, Nat.reduceLeDiff, Nat.le_refl, Int.natCast_zero, Int.toNat_natCast, Int.reduceToNat]
    (refine sCallX_io [900007] rfl ?_; simp -dsimp -implicitDefEqProofs only [go_sem, ↓reduceIte, Nat.reduceEqDiff, Nat.reduceLT, Nat.reduceAdd, Nat.reduceMul, Nat.reduceLeDiff, Nat.le_refl, Int.natCast_zero, Int.toNat_natCast, Int.reduceToNat]; refine sCallMX_one (q3 _) ?_; simp -dsimp -implicitDefEqProofs only [go_sem, ↓reduceIte, Nat.reduceEqDiff, Nat.reduceLT, Nat.reduceAdd, Nat.reduceMul, Nat.reduceLeDiff, Nat.le_refl, Int.natCast_zero, Int.toNat_natCast, Int.reduceToNat])
    exact rfl
structure RdO where
  m : MkM
  s : List UInt8
  sec : Int
def rdOD2 (bs : List UInt8) (p : MkM × List UInt8 × Src) : RdO := ⟨p.1, p.2.1, (secD bs p.1 p.2.2).1⟩
def rdOD (bs : List UInt8) (s : Src) : RdO := rdOD2 bs (stD bs s)
theorem stD_ok (bs : List UInt8) {s : Src} (h : SrcOk s) : SrcOk (stD bs s).2.2 ∧ (stD bs s).2.1.length ≤ 1001 := stB_ok bs (mkD_ok bs h)
theorem c_DrawReadStamp (bs : List UInt8) (hl : bs.length ≤ 4096) : Fn Tryz.prog 10 [eYs bs] false (· = .tup [eMk (rdOD bs (src0 bs)).m, eS (rdOD bs (src0 bs)).s, eI (rdOD bs (src0 bs)).sec]) := by
  refine Fn.of_vcS 20 [.cell 2 25, .tmp 3, .tmp 4] Tryz.func10 rfl rfl rfl rfl rfl (of_decide_eq_true rfl) ?_
  simp -dsimp -implicitDefEqProofs only [go_sem, ↓reduceIte, Nat.reduceEqDiff, Nat.reduceLT, Nat.reduceAdd, Nat.reduceMul, Nat.reduceLeDiff, Nat.le_refl, Int.natCast_zero, Int.toNat_natCast, Int.reduceToNat]
  (refine sCallT_inl 900000 34 [.tmp 2] Tryz.func43 rfl rfl rfl rfl rfl (by exact of_decide_eq_true rfl) ?_; simp -dsimp -implicitDefEqProofs only [go_sem, ↓reduceIte, Nat.reduceEqDiff, Nat.reduceLT, Nat.reduceAdd, Nat.reduceMul, Nat.reduceLeDiff, Nat.le_refl, Int.natCast_zero, Int.toNat_natCast, Int.reduceToNat]; refine Later.up [0, 3] [10] [7] (min bs.length 64) (fun _ => True) (fun i => [(4, eI i)]) (fun i => [(7, srcB 0 bs ⟨seedAt bs i, 0⟩)]) trivial ?_ rfl (fun i hi _ => ?_) (fun _ => ?_))
  · simp -dsimp -implicitDefEqProofs only [go_sem, ↓reduceIte, Nat.reduceEqDiff, Nat.reduceLT, Nat.reduceAdd, Nat.reduceMul, Nat.reduceLeDiff, Nat.le_refl, Int.natCast_zero, Int.toNat_natCast, Int.reduceToNat]
    simp [seedAt]
  · ((have h1 : i < bs.length := by omega); (have h2 : i < 64 := by omega); (have hs := seedAt_ok bs i); (have hb := (bs[i]).toNat_lt); (have d1 := lt_len h1); (have d2 : decide ((i : Int) < 64) = true := decide_eq_true (by omega)); (have g1 := get_some h1); (have e1 := seedAt_succ h1); simp -dsimp -implicitDefEqProofs only [pick_nil, pick_cons, look_nil, look_cons, dropB_nil, dropB_cons, inD_nil, inD_cons, inE_nil, inE_cons, or_t_l, or_f_l, Nat.reduceBEq, Nat.reduceDiv, Nat.reduceAdd, beq_self_eq_true, Bool.false_eq_true, Bool.or_false, ↓reduceIte, Nat.reduceEqDiff, List.cons_append, List.nil_append]; rw [e1]; generalize bs[i] = b at *; generalize seedAt bs i = z at *; simp -dsimp -implicitDefEqProofs only [go_sem, ↓reduceIte, Nat.reduceEqDiff, Nat.reduceLT, Nat.reduceAdd, Nat.reduceMul, Nat.reduceLeDiff, Nat.le_refl, Int.natCast_zero, Int.toNat_natCast, Int.reduceToNat, d1, d2]; refine Later.draw mixed rfl ?_; simp -dsimp -implicitDefEqProofs only [go_sem, ↓reduceIte, Nat.reduceEqDiff, Nat.reduceLT, Nat.reduceAdd, Nat.reduceMul, Nat.reduceLeDiff, Nat.le_refl, Int.natCast_zero, Int.toNat_natCast, Int.reduceToNat, g1]; (repeat' (with_reducible refine And.intro ?_ ?_)); all_goals (first | omega | (refine ⟨?_, ?_⟩ <;> omega) | (exact rfl) | (simp; done) | trace_state))
  (have hs := src0_ok bs); (have hq : (⟨seedAt bs (min bs.length 64), 0⟩ : Src) = src0 bs := rfl); rw [hq]; clear hq; generalize src0 bs = s at *; (have d64 : decide (((64 : Nat) : Int) < 64) = false := rfl)
  have o0 := (stD_ok bs hs).1
  have q0 := fun v => c_l28Draw v bs s hs hl
  unfold rdOD
  generalize stD bs s = p at *
  unfold rdOD2
  have q3 := fun v => c_l28DrawSecret v bs p.1 p.2.2 o0 hl
  generalize secD bs p.1 p.2.2 = b at *
  rcases Nat.lt_or_ge 64 bs.length with h64 | h64
  case' inl => (rw [Nat.min_eq_right (Nat.le_of_lt h64)]; simp -dsimp -implicitDefEqProofs only [pick_nil, pick_cons, look_nil, look_cons, dropB_nil, dropB_cons, inD_nil, inD_cons, inE_nil, inE_cons, or_t_l, or_f_l, Nat.reduceBEq, Nat.reduceDiv, Nat.reduceAdd, beq_self_eq_true, Bool.false_eq_true, Bool.or_false, ↓reduceIte, Nat.reduceEqDiff, List.cons_append, List.nil_append]; simp -dsimp -implicitDefEqProofs only [go_sem, ↓reduceIte, Nat.reduceEqDiff, Nat.reduceLT, Nat.reduceAdd, Nat.reduceMul, Nat.reduceLeDiff, Nat.le_refl, Int.natCast_zero, Int.toNat_natCast, Int.reduceToNat, lt_len h64, d64])
  case' inr => (rw [Nat.min_eq_left h64]; simp -dsimp -implicitDefEqProofs only [pick_nil, pick_cons, look_nil, look_cons, dropB_nil, dropB_cons, inD_nil, inD_cons, inE_nil, inE_cons, or_t_l, or_f_l, Nat.reduceBEq, Nat.reduceDiv, Nat.reduceAdd, beq_self_eq_true, Bool.false_eq_true, Bool.or_false, ↓reduceIte, Nat.reduceEqDiff, List.cons_append, List.nil_append]; simp -dsimp -implicitDefEqProofs only [go_sem, ↓reduceIte, Nat.reduceEqDiff, Nat.reduceLT, Nat.reduceAdd, Nat.reduceMul, Nat.reduceLeDiff, Nat.le_refl, Int.natCast_zero, Int.toNat_natCast, Int.reduceToNat, nlt_len])
  all_goals
    (refine sCallT_io [900007] ?_; simp -dsimp -implicitDefEqProofs only [go_sem, ↓reduceIte, Nat.reduceEqDiff, Nat.reduceLT, Nat.reduceAdd, Nat.reduceMul, Nat.reduceLeDiff, Nat.le_refl, Int.natCast_zero, Int.toNat_natCast, Int.reduceToNat]; refine sCallM_one (q0 _) ?_; simp -dsimp -implicitDefEqProofs only [go_sem, ↓reduceIte, Nat.reduceEqDiff, Nat.reduceLT, Nat.reduceAdd, Nat.reduceMul, Nat.reduceLeDiff, Nat.le_refl, Int.natCast_zero, Int.toNat_natCast, Int.reduceToNat])
    refine Later.draw mixed rfl ?_
    simp -dsimp -implicitDefEqProofs only [go_sem, ↓reduceIte, Nat.reduceEqDiff, Nat.reduceLT, Nat.reduceAdd, Nat.reduceMul, Nat.reduceLeDiff, Nat.le_refl, Int.natCast_zero, Int.toNat_natCast, Int.reduceToNat]
    (refine sCallX_io [900007] rfl ?_; simp -dsimp -implicitDefEqProofs only [go_sem, ↓reduceIte, Nat.reduceEqDiff, Nat.reduceLT, Nat.reduceAdd, Nat.reduceMul, Nat.reduceLeDiff, Nat.le_refl, Int.natCast_zero, Int.toNat_natCast, Int.reduceToNat]; refine sCallMX_one (q3 _) ?_; simp -dsimp -implicitDefEqProofs only [go_sem, ↓reduceIte, Nat.reduceEqDiff, Nat.reduceLT, Nat.reduceAdd, Nat.reduceMul, Nat.reduceLeDiff, Nat.le_refl, Int.natCast_zero, Int.toNat_natCast, Int.reduceToNat])
    exact rfl
structure MvO where
  m : MkM
  s : List UInt8
  a : Int
  b : Int
structure ScO where
  m : MkM
  s : List UInt8
  key : List Int
end Go.Vc


/-
  Contracts: stamps read and moved.
-/
set_option linter.unusedVariables false
set_option linter.unusedSimpArgs false
set_option linter.unnecessarySimpa false
namespace Go.Vc
open Go.Proofs Go.Lib
set_option maxRecDepth 100000
set_option maxHeartbeats 4000000
def rdOk (m : MkM) (s : List UInt8) (sec : Int) : Bool := decide (codeO m 0 sec = 0) && (readS (allN m) s).2.2
def rdAV (m : MkM) (s : List UInt8) (sec : Int) : AV := if rdOk m s sec = true then eIs (readO m s sec).1 else .val (.slice none 0 0)
theorem rdOk_ok {m : MkM} {s : List UInt8} {sec : Int} (h : rdOk m s sec = true) : isMk m = true ∧ (0 ≤ sec ∧ sec < allN m) ∧ (readS (allN m) s).2.2 = true ∧ (0 ≤ (readS (allN m) s).1 ∧ (readS (allN m) s).1 ≤ 25) ∧ (0 ≤ (readS (allN m) s).2.1 ∧ (readS (allN m) s).2.1 < allN m) ∧
    readO m s sec = (atK m (((readS (allN m) s).2.1 + allN m - sec).tmod (allN m)), (readS (allN m) s).1, 0) := by
  unfold rdOk at h
  simp only [Bool.and_eq_true, decide_eq_true_eq] at h
  obtain ⟨h1, h2⟩ := h
  obtain ⟨a, _, c⟩ := codeO_ok h1
  exact ⟨a, c, h2, readS_1 h2, read_bound h2, by rw [readO, if_pos h1, if_pos h2]⟩
theorem at_mod {m : MkM} (hm : isMk m = true) {x : Int} (h0 : 0 ≤ x) (hN : 0 < allN m) : ∃ h : (x.tmod (allN m)).toNat < (allK m).length, atK m (x.tmod (allN m)) = (allK m)[(x.tmod (allN m)).toNat] ∧ KeyOk m (atK m (x.tmod (allN m))) ∧ (rankTo m (atK m (x.tmod (allN m))) (atK m (x.tmod (allN m))).length : Int) = x.tmod (allN m) := by
  have h1 := Int.tmod_nonneg (allN m) h0
  have h2 := Int.tmod_lt_of_pos x hN
  have e := allN_len m
  have hlt : (x.tmod (allN m)).toNat < (allK m).length := by omega
  have ha : atK m (x.tmod (allN m)) = (allK m)[(x.tmod (allN m)).toNat] := by simp [atK, List.getD_eq_getElem?_getD, hlt]
  have hm2 := isMk_num hm
  obtain ⟨k1, k2⟩ := index_rank (by omega) hlt
  refine ⟨hlt, ha, by rw [ha]; exact k1, ?_⟩
  rw [ha, k2, Int.toNat_of_nonneg h1]
theorem c_iReadStamp (m : MkM) (s : List UInt8) (sec : Int) (hs : s.length ≤ 1048576) : Fn Tryz.prog 11 [eMk m, eS s, eI sec] false (· = .tup [rdAV m s sec, eI (readO m s sec).2.1, eI (readO m s sec).2.2]) := by
  refine Fn.of_vcS 42 [.tmp 6, .tmp 7, .tmp 8] Tryz.func11 rfl rfl rfl rfl rfl (of_decide_eq_true rfl) ?_
  have hmk := c_CountKeys m
  have h10 : ((1 : Int) != 0) = true := rfl
  have h00 : ((0 : Int) != 0) = false := rfl
  rcases hm : isMk m with _ | _
  · have e1 : rdOk m s sec = false := by rw [rdOk, codeO_no hm]; rfl
    have e2 : readO m s sec = ([], 0, 1) := by rw [readO, codeO_no hm]; rfl
    have e3 : rdAV m s sec = .val (.slice none 0 0) := by rw [rdAV, if_neg (by rw [e1]; exact fun h => by cases h)]
    rw [e2, e3]
    rw [hm] at hmk
    simp only [Bool.false_eq_true, if_false] at hmk
    clear hm e1 e2 e3
    simp -dsimp -implicitDefEqProofs only [go_sem, ↓reduceIte, Nat.reduceEqDiff, Nat.reduceLT, Nat.reduceAdd, Nat.reduceMul, Nat.reduceLeDiff, Nat.le_refl, Int.natCast_zero, Int.toNat_natCast, Int.reduceToNat]
    repeat' (refine sCallT_one (hmk) ?_; try simp -dsimp -implicitDefEqProofs only [go_sem, ↓reduceIte, Nat.reduceEqDiff, Nat.reduceLT, Nat.reduceAdd, Nat.reduceMul, Nat.reduceLeDiff, Nat.le_refl, Int.natCast_zero, Int.toNat_natCast, Int.reduceToNat, *])
    all_goals trace_state
  · have hb := allN_bound hm
    rw [hm] at hmk
    simp only [if_true] at hmk
    have i2 := c_within sec 0 (allN m - 1)
    have hin : isIn sec 0 (allN m - 1) = true ↔ 0 ≤ sec ∧ sec < allN m := by simp only [isIn, Bool.and_eq_true, decide_eq_true_eq]; omega
    rcases hy : isIn sec 0 (allN m - 1) with _ | _
    · rw [hy] at hin i2
      have hc : codeO m 0 sec = 2 := by rw [codeO, if_pos hm, if_neg (by rw [hy]; simp)]
      have e1 : rdOk m s sec = false := by rw [rdOk, hc]; rfl
      have e2 : readO m s sec = ([], 0, 2) := by rw [readO, hc]; rfl
      have e3 : rdAV m s sec = .val (.slice none 0 0) := by rw [rdAV, if_neg (by rw [e1]; exact fun h => by cases h)]
      rw [e2, e3]
      clear hm e1 e2 e3 hc hin hy
      generalize allN m = N at *
      simp -dsimp -implicitDefEqProofs only [go_sem, ↓reduceIte, Nat.reduceEqDiff, Nat.reduceLT, Nat.reduceAdd, Nat.reduceMul, Nat.reduceLeDiff, Nat.le_refl, Int.natCast_zero, Int.toNat_natCast, Int.reduceToNat]
      repeat' (refine sCallT_one (hmk) ?_; try simp -dsimp -implicitDefEqProofs only [go_sem, ↓reduceIte, Nat.reduceEqDiff, Nat.reduceLT, Nat.reduceAdd, Nat.reduceMul, Nat.reduceLeDiff, Nat.le_refl, Int.natCast_zero, Int.toNat_natCast, Int.reduceToNat, *])
      repeat' (refine sCallT_one (i2) ?_; try simp -dsimp -implicitDefEqProofs only [go_sem, ↓reduceIte, Nat.reduceEqDiff, Nat.reduceLT, Nat.reduceAdd, Nat.reduceMul, Nat.reduceLeDiff, Nat.le_refl, Int.natCast_zero, Int.toNat_natCast, Int.reduceToNat, *])
      ((repeat' (with_reducible refine And.intro ?_ ?_)); all_goals try (first | omega | (refine ⟨?_, ?_⟩ <;> omega) | (exact rfl)))
      repeat' (refine sCallT_one (i2) ?_; try simp -dsimp -implicitDefEqProofs only [go_sem, ↓reduceIte, Nat.reduceEqDiff, Nat.reduceLT, Nat.reduceAdd, Nat.reduceMul, Nat.reduceLeDiff, Nat.le_refl, Int.natCast_zero, Int.toNat_natCast, Int.reduceToNat, *])
      all_goals trace_state
    · rw [hy] at i2
      have hsec := hin.1 hy
      have hc : codeO m 0 sec = 0 := codeO_iff.2 ⟨hm, by omega, hsec⟩
      have hrd := c_readStamp (allN m) s (by omega) hs
      have hsame := (read_same (allN m) s).1
      have hsame2 := (read_same (allN m) s).2
      have hs1 := readI_1 (K := allN m) (s := s)
      rcases ho : (readS (allN m) s).2.2 with _ | _
      · have e1 : rdOk m s sec = false := by rw [rdOk, hc, ho]; rfl
        have e2 : readO m s sec = ([], 0, 6) := by rw [readO, if_pos hc, if_neg (by rw [ho]; simp)]
        have e3 : rdAV m s sec = .val (.slice none 0 0) := by rw [rdAV, if_neg (by rw [e1]; exact fun h => by cases h)]
        rw [e2, e3]
        rw [ho] at hsame
        rw [hsame] at hrd
        clear hm e1 e2 e3 hc hin hy ho hsame2 hs1
        generalize allN m = N at *
        generalize readI N s = R at *
        simp -dsimp -implicitDefEqProofs only [go_sem, ↓reduceIte, Nat.reduceEqDiff, Nat.reduceLT, Nat.reduceAdd, Nat.reduceMul, Nat.reduceLeDiff, Nat.le_refl, Int.natCast_zero, Int.toNat_natCast, Int.reduceToNat]
        repeat' (refine sCallT_one (hmk) ?_; try simp -dsimp -implicitDefEqProofs only [go_sem, ↓reduceIte, Nat.reduceEqDiff, Nat.reduceLT, Nat.reduceAdd, Nat.reduceMul, Nat.reduceLeDiff, Nat.le_refl, Int.natCast_zero, Int.toNat_natCast, Int.reduceToNat, *])
        repeat' (refine sCallT_one (i2) ?_; try simp -dsimp -implicitDefEqProofs only [go_sem, ↓reduceIte, Nat.reduceEqDiff, Nat.reduceLT, Nat.reduceAdd, Nat.reduceMul, Nat.reduceLeDiff, Nat.le_refl, Int.natCast_zero, Int.toNat_natCast, Int.reduceToNat, *])
        ((repeat' (with_reducible refine And.intro ?_ ?_)); all_goals try (first | omega | (refine ⟨?_, ?_⟩ <;> omega) | (exact rfl)))
        repeat' (refine sCallT_one (i2) ?_; try simp -dsimp -implicitDefEqProofs only [go_sem, ↓reduceIte, Nat.reduceEqDiff, Nat.reduceLT, Nat.reduceAdd, Nat.reduceMul, Nat.reduceLeDiff, Nat.le_refl, Int.natCast_zero, Int.toNat_natCast, Int.reduceToNat, *])
        repeat' (refine sCallT_one (hrd) ?_; try simp -dsimp -implicitDefEqProofs only [go_sem, ↓reduceIte, Nat.reduceEqDiff, Nat.reduceLT, Nat.reduceAdd, Nat.reduceMul, Nat.reduceLeDiff, Nat.le_refl, Int.natCast_zero, Int.toNat_natCast, Int.reduceToNat, *])
        all_goals trace_state
      · have e1 : rdOk m s sec = true := by rw [rdOk, hc, ho]; rfl
        obtain ⟨-, -, -, q1, q2, q3⟩ := rdOk_ok e1
        have e3 : rdAV m s sec = eIs (readO m s sec).1 := by rw [rdAV, if_pos e1]
        rw [ho] at hsame
        rw [hsame, hs1 hsame, hsame2 hsame] at hrd
        obtain ⟨hx, hx2, -, -⟩ := at_mod hm (x := (readS (allN m) s).2.1 + allN m - sec) (by omega) (by omega)
        have hkw := c_keyWith m hm (readS (allN m) s).2.1 sec q2 hsec hx
        rw [← hx2] at hkw
        rw [e3, q3]
        clear hm e1 e3 hc hin hy ho hsame2 hs1 hx2 hx q3 hsame
        generalize atK m _ = K at *
        generalize allN m = N at *
        generalize readS N s = R at *
        simp -dsimp -implicitDefEqProofs only [go_sem, ↓reduceIte, Nat.reduceEqDiff, Nat.reduceLT, Nat.reduceAdd, Nat.reduceMul, Nat.reduceLeDiff, Nat.le_refl, Int.natCast_zero, Int.toNat_natCast, Int.reduceToNat]
        repeat' (refine sCallT_one (hmk) ?_; try simp -dsimp -implicitDefEqProofs only [go_sem, ↓reduceIte, Nat.reduceEqDiff, Nat.reduceLT, Nat.reduceAdd, Nat.reduceMul, Nat.reduceLeDiff, Nat.le_refl, Int.natCast_zero, Int.toNat_natCast, Int.reduceToNat, *])
        repeat' (refine sCallT_one (i2) ?_; try simp -dsimp -implicitDefEqProofs only [go_sem, ↓reduceIte, Nat.reduceEqDiff, Nat.reduceLT, Nat.reduceAdd, Nat.reduceMul, Nat.reduceLeDiff, Nat.le_refl, Int.natCast_zero, Int.toNat_natCast, Int.reduceToNat, *])
        ((repeat' (with_reducible refine And.intro ?_ ?_)); all_goals try (first | omega | (refine ⟨?_, ?_⟩ <;> omega) | (exact rfl)))
        repeat' (refine sCallT_one (i2) ?_; try simp -dsimp -implicitDefEqProofs only [go_sem, ↓reduceIte, Nat.reduceEqDiff, Nat.reduceLT, Nat.reduceAdd, Nat.reduceMul, Nat.reduceLeDiff, Nat.le_refl, Int.natCast_zero, Int.toNat_natCast, Int.reduceToNat, *])
        repeat' (refine sCallT_one (hrd) ?_; try simp -dsimp -implicitDefEqProofs only [go_sem, ↓reduceIte, Nat.reduceEqDiff, Nat.reduceLT, Nat.reduceAdd, Nat.reduceMul, Nat.reduceLeDiff, Nat.le_refl, Int.natCast_zero, Int.toNat_natCast, Int.reduceToNat, *])
        refine sCallS_one hkw (by simp [noLabs, labs, labsL, isClo]) ?_
        simp -dsimp -implicitDefEqProofs only [go_sem, ↓reduceIte, Nat.reduceEqDiff, Nat.reduceLT, Nat.reduceAdd, Nat.reduceMul, Nat.reduceLeDiff, Nat.le_refl, Int.natCast_zero, Int.toNat_natCast, Int.reduceToNat]
        all_goals trace_state
theorem c_sReadStamp (m : MkM) (s : List UInt8) (sec : Int) (hs : s.length ≤ 1048576) : Fn Tryz.prog 12 [eMk m, eS s, eI sec] true (· = .tup [eIs (readO m s sec).1, eI (readO m s sec).2.1, eI (readO m s sec).2.2]) := by
  refine Fn.of_vcN 47 [.tmp 6, .tmp 7, .tmp 8] Tryz.func12 rfl rfl rfl rfl rfl (of_decide_eq_true rfl) ?_
  have hcode := c_l28Code m 0 sec
  have h00 : ((0 : Int) != 0) = false := rfl
  by_cases hc : codeO m 0 sec = 0
  · obtain ⟨hm, -, hsec⟩ := codeO_ok hc
    have hrd := c_l28Read m hm s hs
    have e : (cnt m m.chambers.toNat [] : Nat) = allN m := rfl
    rw [e] at hrd
    rw [hc] at hcode
    rcases ho : (readS (allN m) s).2.2 with _ | _
    · have e2 : readO m s sec = ([], 0, 6) := by rw [readO, if_pos hc, if_neg (by rw [ho]; simp)]
      rw [e2]
      rw [ho] at hrd
      clear hm hc ho e2 e
      generalize allN m = N at *
      generalize readS N s = R at *
      simp -dsimp -implicitDefEqProofs only [go_sem, ↓reduceIte, Nat.reduceEqDiff, Nat.reduceLT, Nat.reduceAdd, Nat.reduceMul, Nat.reduceLeDiff, Nat.le_refl, Int.natCast_zero, Int.toNat_natCast, Int.reduceToNat]
      repeat' (refine sCallT_one (hcode) ?_; try simp -dsimp -implicitDefEqProofs only [go_sem, ↓reduceIte, Nat.reduceEqDiff, Nat.reduceLT, Nat.reduceAdd, Nat.reduceMul, Nat.reduceLeDiff, Nat.le_refl, Int.natCast_zero, Int.toNat_natCast, Int.reduceToNat, *])
      repeat' (refine sCallT_one (hrd) ?_; try simp -dsimp -implicitDefEqProofs only [go_sem, ↓reduceIte, Nat.reduceEqDiff, Nat.reduceLT, Nat.reduceAdd, Nat.reduceMul, Nat.reduceLeDiff, Nat.le_refl, Int.natCast_zero, Int.toNat_natCast, Int.reduceToNat, *])
      all_goals trace_state
    · have e1 : rdOk m s sec = true := by rw [rdOk, hc, ho]; rfl
      have hb := allN_bound hm
      obtain ⟨-, -, -, q1, q2, q3⟩ := rdOk_ok e1
      obtain ⟨hx, hx2, -, -⟩ := at_mod hm (x := (readS (allN m) s).2.1 + allN m - sec) (by omega) (by omega)
      have hka := c_sKeyAt m hm _ hx
      have hcn := c_l02Count0 m hm
      rw [e] at hcn
      rw [Int.toNat_of_nonneg (Int.tmod_nonneg _ (by omega)), ← hx2] at hka
      rw [ho] at hrd
      rw [q3]
      clear hm e1 hc ho hx2 hx q3 e
      generalize atK m _ = K at *
      generalize allN m = N at *
      generalize readS N s = R at *
      have hN0 : (N == 0) = false := beq_eq_false_iff_ne.2 (by omega)
      simp -dsimp -implicitDefEqProofs only [go_sem, ↓reduceIte, Nat.reduceEqDiff, Nat.reduceLT, Nat.reduceAdd, Nat.reduceMul, Nat.reduceLeDiff, Nat.le_refl, Int.natCast_zero, Int.toNat_natCast, Int.reduceToNat]
      repeat' (refine sCallT_one (hcode) ?_; try simp -dsimp -implicitDefEqProofs only [go_sem, ↓reduceIte, Nat.reduceEqDiff, Nat.reduceLT, Nat.reduceAdd, Nat.reduceMul, Nat.reduceLeDiff, Nat.le_refl, Int.natCast_zero, Int.toNat_natCast, Int.reduceToNat, *])
      repeat' (refine sCallT_one (hrd) ?_; try simp -dsimp -implicitDefEqProofs only [go_sem, ↓reduceIte, Nat.reduceEqDiff, Nat.reduceLT, Nat.reduceAdd, Nat.reduceMul, Nat.reduceLeDiff, Nat.le_refl, Int.natCast_zero, Int.toNat_natCast, Int.reduceToNat, *])
      repeat' (refine sCallT_one (hcn) ?_; try simp -dsimp -implicitDefEqProofs only [go_sem, ↓reduceIte, Nat.reduceEqDiff, Nat.reduceLT, Nat.reduceAdd, Nat.reduceMul, Nat.reduceLeDiff, Nat.le_refl, Int.natCast_zero, Int.toNat_natCast, Int.reduceToNat, *])
      refine Later.draw mixed rfl ?_
      simp -dsimp -implicitDefEqProofs only [go_sem, ↓reduceIte, Nat.reduceEqDiff, Nat.reduceLT, Nat.reduceAdd, Nat.reduceMul, Nat.reduceLeDiff, Nat.le_refl, Int.natCast_zero, Int.toNat_natCast, Int.reduceToNat, hN0]
      ((repeat' (with_reducible refine And.intro ?_ ?_)); all_goals try (first | omega | (refine ⟨?_, ?_⟩ <;> omega) | (exact rfl)))
      refine sCallX_one hka ?_
      simp -dsimp -implicitDefEqProofs only [go_sem, ↓reduceIte, Nat.reduceEqDiff, Nat.reduceLT, Nat.reduceAdd, Nat.reduceMul, Nat.reduceLeDiff, Nat.le_refl, Int.natCast_zero, Int.toNat_natCast, Int.reduceToNat]
      ((repeat' (with_reducible refine And.intro ?_ ?_)); all_goals try (first | omega | (refine ⟨?_, ?_⟩ <;> omega) | (exact rfl)))
      all_goals simp
  · have e2 : readO m s sec = ([], 0, codeO m 0 sec) := by rw [readO, if_neg hc]
    rw [e2]
    have hz2 : (codeO m 0 sec != 0) = true := bne_iff_ne.2 hc
    clear hc e2
    generalize codeO m 0 sec = C at *
    simp -dsimp -implicitDefEqProofs only [go_sem, ↓reduceIte, Nat.reduceEqDiff, Nat.reduceLT, Nat.reduceAdd, Nat.reduceMul, Nat.reduceLeDiff, Nat.le_refl, Int.natCast_zero, Int.toNat_natCast, Int.reduceToNat]
    repeat' (refine sCallT_one (hcode) ?_; try simp -dsimp -implicitDefEqProofs only [go_sem, ↓reduceIte, Nat.reduceEqDiff, Nat.reduceLT, Nat.reduceAdd, Nat.reduceMul, Nat.reduceLeDiff, Nat.le_refl, Int.natCast_zero, Int.toNat_natCast, Int.reduceToNat, *])
    all_goals trace_state
theorem mod_add_mod {x b N : Int} (hx : 0 ≤ x) (hb : 0 ≤ b) (hN : 0 < N) : (x.tmod N + b).tmod N = (x + b).tmod N := by
  have h1 := Int.tmod_nonneg N hx
  rw [Int.tmod_eq_emod_of_nonneg (show 0 ≤ x.tmod N + b by omega), Int.tmod_eq_emod_of_nonneg hx, Int.tmod_eq_emod_of_nonneg (show 0 ≤ x + b by omega), Int.emod_add_emod]
theorem move_ok {m : MkM} {s : List UInt8} {a b : Int} (h : rdOk m s a = true) (hb : codeO m 0 b = 0) :
    stampO m (readO m s a).1 (readO m s a).2.1 b = moveO m s a b ∧ moveO m s a b = (stampS (itoa (allN m)).length (readS (allN m) s).1 (((readS (allN m) s).2.1 - a + b + allN m).tmod (allN m)), 0) := by
  obtain ⟨q0, q1, q2, q3, q4, q5⟩ := rdOk_ok h
  obtain ⟨-, -, hb2⟩ := codeO_ok hb
  have hca : codeO m 0 a = 0 := codeO_iff.2 ⟨q0, by omega, q1⟩
  obtain ⟨hx, hx2, hk, hr⟩ := at_mod q0 (x := (readS (allN m) s).2.1 + allN m - a) (by omega) (by omega)
  have hmv : moveO m s a b = (stampS (itoa (allN m)).length (readS (allN m) s).1 (((readS (allN m) s).2.1 - a + b + allN m).tmod (allN m)), 0) := by rw [moveO, if_pos hca, if_pos hb, if_pos q2]
  refine ⟨?_, hmv⟩
  rw [hmv, q5]
  dsimp only
  rw [stampO, if_pos (codeO_iff.2 ⟨q0, q3, hb2⟩), if_pos hk.fault, hr, mod_add_mod (by omega) (by omega) (by omega)]
  congr 3
  omega
end Go.Vc


/-
  Plain facts on stamps: a stamp is read again; a stamp with one other digit is none.
-/
set_option linter.unusedVariables false
set_option linter.unusedSimpArgs false
set_option linter.unnecessarySimpa false
namespace Go.Vc
open Go.Proofs Go.Lib
set_option maxRecDepth 100000
theorem dval_zero : ∀ k acc, dval acc (List.replicate k 48) = acc * 10 ^ k
  | 0, acc => by simp [dval_nil]
  | k + 1, acc => by
    rw [List.replicate_succ, dval_cons, dval_zero k, Nat.pow_succ]
    show (acc * 10 + 0) * 10 ^ k = _
    rw [Nat.add_zero, Nat.mul_assoc, Nat.mul_comm 10]
theorem pad_val {w : Nat} {n : Int} (h : 0 ≤ n) : (dval 0 (padS w (itoa n)) : Int) = n := by
  rw [padS, dval_app, dval_zero, Nat.zero_mul, itoa_of_nonneg h, dval_dec0]
  omega
theorem dsum_val {x : UInt8} {A r : List UInt8} (hA : ∀ b ∈ A, isDg b = true) : ∀ i, i ≤ A.length → dsum ([x] ++ A ++ r) i = (dval 0 (A.take i) : Nat)
  | 0, _ => rfl
  | i + 1, hi => by
    have e : A.take (i + 1) = A.take i ++ [A[i]] := by rw [List.take_add_one]; simp [show i < A.length by omega]
    have g : ([x] ++ A ++ r).getD (i + 1) 0 = A[i] := by simp [List.getD_eq_getElem?_getD, List.getElem?_append, show i < A.length by omega]
    have hd := hA A[i] (List.getElem_mem (by omega))
    simp only [isDg, Bool.and_eq_true, decide_eq_true_eq] at hd
    rw [dsum, dsum_val hA i (by omega), g, e, dval_app, dval_cons, dval_nil]
    omega
theorem chk_len {se n : Int} (h : 0 ≤ se ∧ se ≤ 25) (hn : 0 ≤ n ∧ n ≤ 1000000) : (itoa (chk se n)).length ≤ 2 := by
  have := chk_bound h hn
  rw [itoa_of_nonneg this.1]
  exact dec_len_le 1 _ (by omega)
theorem stamp_len {N se n : Int} (h : 0 ≤ se ∧ se ≤ 25) (hn : 0 ≤ n ∧ n < N) (hN : N ≤ 262144) : (stampS (itoa N).length se n).length = (itoa N).length + 4 := by
  have h1 := (pad_dg (w := (itoa N).length) (n := n) hn.1 (itoa_mono hn.1 (by omega))).1
  have h2 := (pad_dg (w := 2) (n := chk se n) (chk_bound h (by omega)).1 (chk_len h (by omega))).1
  simp only [stampS, List.length_append, List.length_cons, List.length_nil, h1, h2]
  omega
theorem readS_stamp {N se n : Int} (h : 0 ≤ se ∧ se ≤ 25) (hn : 0 ≤ n ∧ n < N) (hN : N ≤ 262144) : readS N (stampS (itoa N).length se n) = (se, n, true) := by
  have hm := itoa_mono hn.1 (show n ≤ N by omega)
  have h1 := pad_dg (w := (itoa N).length) (n := n) hn.1 hm
  have hl := stamp_len h hn hN
  have hd := stamp_dgs (w := (itoa N).length) (se := se) hn.1 hm
  have h0 : ((stampS (itoa N).length se n).getD 0 0).toNat = 65 + se.toNat := by
    have e : (stampS (itoa N).length se n).getD 0 0 = UInt8.ofNat (65 + se).toNat := by simp [stampS]
    rw [e, UInt8.toNat_ofNat']
    omega
  have hv : dsum (stampS (itoa N).length se n) (itoa N).length = n := by
    have := dsum_val (x := UInt8.ofNat (65 + se).toNat) (r := [45] ++ padS 2 (itoa (chk se n))) h1.2 (itoa N).length (by omega)
    rw [List.take_of_length_le (by omega), pad_val hn.1] at this
    refine Eq.trans ?_ this
    simp [stampS]
  unfold readS
  rw [h0, hv, if_pos ⟨hl, by omega, by omega, hd⟩]
  have e : ((65 + se.toNat : Nat) : Int) - 65 = se := by omega
  rw [e, decide_eq_true hn.2, decide_eq_true rfl]
  rfl
theorem readS_text {N : Int} {s : List UInt8} (h : (readS N s).2.2 = true) : stampS (itoa N).length (readS N s).1 (readS N s).2.1 = s := by
  unfold readS at h ⊢
  split at h
  · rename_i q
    rw [if_pos q]
    simp only [Bool.and_eq_true, decide_eq_true_eq] at h
    exact h.2
  · cases h
/-- one digit more, of so much weight -/
theorem dval_set : ∀ (A : List UInt8) (i acc : Nat) (x : UInt8) (hi : i < A.length), (∀ b ∈ A, isDg b = true) → isDg x = true → ((dval acc (A.set i x) : Nat) : Int) = (dval acc A : Nat) + ((x.toNat : Int) - (A[i].toNat : Int)) * 10 ^ (A.length - 1 - i)
  | b :: A, 0, acc, x, _, hA, hx => by
    have key : ∀ (l : List UInt8) (a c : Nat), ((dval a l : Nat) : Int) = dval c l + ((a : Int) - c) * 10 ^ l.length := by
      intro l
      induction l with
      | nil => intro a c; simp [dval_nil]; omega
      | cons y l ih =>
        intro a c
        rw [dval_cons, dval_cons, ih (a * 10 + (y.toNat - 48)) (c * 10 + (y.toNat - 48)), List.length_cons, Int.pow_succ]
        have : ((a * 10 + (y.toNat - 48) : Nat) : Int) - ((c * 10 + (y.toNat - 48) : Nat) : Int) = ((a : Int) - c) * 10 := by omega
        rw [this, Int.mul_assoc, Int.mul_comm 10]
    rw [List.set_cons_zero, dval_cons, dval_cons, key A (acc * 10 + (x.toNat - 48)) (acc * 10 + (b.toNat - 48))]
    have hb := hA b (List.mem_cons_self ..)
    simp only [isDg, Bool.and_eq_true, decide_eq_true_eq] at hb hx
    have e : ((acc * 10 + (x.toNat - 48) : Nat) : Int) - ((acc * 10 + (b.toNat - 48) : Nat) : Int) = (x.toNat : Int) - b.toNat := by omega
    rw [e]
    simp
  | b :: A, i + 1, acc, x, hi, hA, hx => by
    rw [List.set_cons_succ, dval_cons, dval_cons, dval_set A i _ x (by simpa using hi) (fun c hc => hA c (List.mem_cons_of_mem _ hc)) hx]
    have e : (b :: A).length - 1 - (i + 1) = A.length - 1 - i := by simp; omega
    rw [e]
    rfl
theorem mod97 {n δ se : Int} {k : Nat} (hk : k ≤ 5) (hδ : -9 ≤ δ ∧ δ ≤ 9) (h0 : δ ≠ 0) (hn : 0 ≤ n) (hn2 : 0 ≤ n + δ * 10 ^ k) (hse : 0 ≤ se) : chk se (n + δ * 10 ^ k) ≠ chk se n := by
  have key : ∀ c : Int, (c = 1 ∨ c = 10 ∨ c = 100 ∨ c = 1000 ∨ c = 10000 ∨ c = 100000) → 0 ≤ n + δ * c → chk se (n + δ * c) ≠ chk se n := by
    intro c hc h2
    unfold chk
    rw [Int.tmod_eq_emod_of_nonneg (by omega), Int.tmod_eq_emod_of_nonneg (by omega)]
    have hd : δ = -9 ∨ δ = -8 ∨ δ = -7 ∨ δ = -6 ∨ δ = -5 ∨ δ = -4 ∨ δ = -3 ∨ δ = -2 ∨ δ = -1 ∨ δ = 1 ∨ δ = 2 ∨ δ = 3 ∨ δ = 4 ∨ δ = 5 ∨ δ = 6 ∨ δ = 7 ∨ δ = 8 ∨ δ = 9 := by omega
    intro he
    have h3 : (100 * δ * c) % 97 = 0 := by
      have e : 100 * (n + δ * c) + se = (100 * n + se) + 100 * δ * c := by
        rw [Int.mul_add, Int.mul_assoc]; omega
      rw [e] at he
      have := Int.emod_emod_of_dvd (100 * n + se) (Int.dvd_refl 97)
      generalize 100 * δ * c = y at *
      generalize 100 * n + se = x at *
      omega
    clear he h2
    rcases hd with h | h | h | h | h | h | h | h | h | h | h | h | h | h | h | h | h | h <;> subst h <;> rcases hc with h | h | h | h | h | h <;> subst h <;> exact absurd h3 (by decide)
  refine key (10 ^ k) ?_ hn2
  match k, hk with
  | 0, _ => exact .inl rfl
  | 1, _ => exact .inr (.inl rfl)
  | 2, _ => exact .inr (.inr (.inl rfl))
  | 3, _ => exact .inr (.inr (.inr (.inl rfl)))
  | 4, _ => exact .inr (.inr (.inr (.inr (.inl rfl))))
  | 5, _ => exact .inr (.inr (.inr (.inr (.inr rfl))))
theorem spoilt {N se n : Int} (h : 0 ≤ se ∧ se ≤ 25) (hn : 0 ≤ n ∧ n < N) (hN : N ≤ 262144) {i : Nat} {x : UInt8} (hi : 1 ≤ i) (hl : i < (stampS (itoa N).length se n).length)
    (hx : isDg x = true) (hold : isDg (stampS (itoa N).length se n)[i] = true) (hne : x ≠ (stampS (itoa N).length se n)[i]) : (readS N ((stampS (itoa N).length se n).set i x)).2.2 = false := by
  rcases hr : (readS N ((stampS (itoa N).length se n).set i x)).2.2 with _ | _
  · rfl
  exfalso
  have ht := readS_text hr
  have hs1 := readS_1 hr
  have hs2 := read_bound hr
  generalize (readS N ((stampS (itoa N).length se n).set i x)).1 = se2 at *
  generalize (readS N ((stampS (itoa N).length se n).set i x)).2.1 = n2 at *
  clear hr
  have hm := itoa_mono hn.1 (show n ≤ N by omega)
  have hm2 := itoa_mono hs2.1 (show n2 ≤ N by omega)
  have hA := pad_dg (w := (itoa N).length) (n := n) hn.1 hm
  have hA2 := pad_dg (w := (itoa N).length) (n := n2) hs2.1 hm2
  have hB := pad_dg (w := 2) (n := chk se n) (chk_bound h (by omega)).1 (chk_len h (by omega))
  have hB2 := pad_dg (w := 2) (n := chk se2 n2) (chk_bound hs1 (by omega)).1 (chk_len hs1 (by omega))
  have hV := pad_val (w := (itoa N).length) hn.1
  have hV2 := pad_val (w := (itoa N).length) hs2.1
  have hC := pad_val (w := 2) (chk_bound h (n := n) (by omega)).1
  have hC2 := pad_val (w := 2) (chk_bound hs1 (n := n2) (by omega)).1
  have hw : (itoa N).length ≤ 6 := by rw [itoa_of_nonneg (by omega)]; exact dec_len_le 5 _ (by omega)
  generalize hW : (itoa N).length = W at *
  -- the parts
  obtain ⟨j, rfl⟩ : ∃ j, i = j + 1 := ⟨i - 1, by omega⟩
  have e0 : (stampS W se n).set (j + 1) x = UInt8.ofNat (65 + se).toNat :: (padS W (itoa n) ++ 45 :: padS 2 (itoa (chk se n))).set j x := by
    simp [stampS]
  have e1 : stampS W se2 n2 = UInt8.ofNat (65 + se2).toNat :: (padS W (itoa n2) ++ 45 :: padS 2 (itoa (chk se2 n2))) := by simp [stampS]
  rw [e0, e1] at ht
  have hy : (padS W (itoa n) ++ 45 :: padS 2 (itoa (chk se n)))[j]? = some (stampS W se n)[j + 1] := by
    rw [← List.getElem?_eq_getElem hl]
    simp [stampS]
  generalize (stampS W se n)[j + 1] = y at *
  clear e0 e1 hl
  rw [List.cons.injEq] at ht
  obtain ⟨t1, t2⟩ := ht
  have hse : se2 = se := by
    have := congrArg UInt8.toNat t1
    rw [UInt8.toNat_ofNat', UInt8.toNat_ofNat'] at this
    omega
  subst hse
  clear t1
  have hcong : n2 = n → padS 2 (itoa (chk se2 n2)) = padS 2 (itoa (chk se2 n)) := fun h => by rw [h]
  generalize padS W (itoa n) = A at *
  generalize padS W (itoa n2) = A2 at *
  generalize padS 2 (itoa (chk se2 n)) = B at *
  generalize padS 2 (itoa (chk se2 n2)) = B2 at *
  by_cases hj : j < A.length
  · rw [List.set_append_left _ _ hj] at t2
    obtain ⟨a1, a2⟩ := List.append_inj t2 (by simp; omega)
    rw [List.cons.injEq] at a2
    have hset := dval_set A j 0 x hj hA.2 hx
    rw [← a1, hV2, hV] at hset
    rw [List.getElem?_append_left hj, List.getElem?_eq_getElem hj] at hy
    have hy := Option.some.inj hy
    subst hy
    simp only [isDg, Bool.and_eq_true, decide_eq_true_eq] at hold hx
    have hne2 : (x.toNat : Int) - A[j].toNat ≠ 0 := fun hh => hne (UInt8.toNat_inj.1 (by omega))
    refine mod97 (k := A.length - 1 - j) (n := n) (δ := (x.toNat : Int) - A[j].toNat) (se := se2) (by omega) (by omega) hne2 hn.1 (by omega) hs1.1 ?_
    rw [← hset, ← hC, ← hC2, a2.2]
  · rw [List.set_append_right _ _ (by omega)] at t2
    obtain ⟨a1, a2⟩ := List.append_inj t2 (by omega)
    have hnn : n2 = n := by rw [← hV, ← hV2, a1]
    have hBB := hcong hnn
    rw [hBB] at a2
    rw [List.getElem?_append_right (by omega)] at hy
    have hk : j - A.length < (45 :: B).length := (List.getElem?_eq_some_iff.1 hy).1
    have := congrArg (fun l => l[j - A.length]?) a2
    simp only [List.getElem?_set_self hk] at this
    rw [hy] at this
    exact hne (Option.some.inj this).symm
theorem stamp_at {N se n : Int} (h : 0 ≤ se ∧ se ≤ 25) (hn : 0 ≤ n ∧ n < N) (hN : N ≤ 262144) {i : Nat} (hi : 1 ≤ i) (hl : i < (stampS (itoa N).length se n).length) :
    isDg (stampS (itoa N).length se n)[i] = true ∨ (stampS (itoa N).length se n)[i] = 45 := by
  have hm := itoa_mono hn.1 (show n ≤ N by omega)
  have hA := pad_dg (w := (itoa N).length) (n := n) hn.1 hm
  have hB := pad_dg (w := 2) (n := chk se n) (chk_bound h (by omega)).1 (chk_len h (by omega))
  obtain ⟨j, rfl⟩ : ∃ j, i = j + 1 := ⟨i - 1, by omega⟩
  have hy : (padS (itoa N).length (itoa n) ++ 45 :: padS 2 (itoa (chk se n)))[j]? = some (stampS (itoa N).length se n)[j + 1] := by
    rw [← List.getElem?_eq_getElem hl]
    simp [stampS]
  generalize (stampS (itoa N).length se n)[j + 1] = y at *
  have := List.mem_of_getElem? hy
  rcases List.mem_append.1 this with q | q
  · exact .inl (hA.2 y q)
  · rcases List.mem_cons.1 q with q | q
    · exact .inr q
    · exact .inl (hB.2 y q)
theorem rd_again {m : MkM} {s : List UInt8} {sec : Int} (h : rdOk m s sec = true) : stampO m (readO m s sec).1 (readO m s sec).2.1 sec = (s, 0) := by
  obtain ⟨q0, q1, q2, q3, q4, q5⟩ := rdOk_ok h
  obtain ⟨e1, e2⟩ := move_ok h (codeO_iff.2 ⟨q0, by omega, q1⟩)
  rw [e1, e2]
  have e : ((readS (allN m) s).2.1 - sec + sec + allN m).tmod (allN m) = (readS (allN m) s).2.1 := by
    rw [Int.tmod_eq_emod_of_nonneg (by omega), show (readS (allN m) s).2.1 - sec + sec + allN m = (readS (allN m) s).2.1 + allN m by omega, Int.add_emod_right]
    exact Int.emod_eq_of_lt q4.1 q4.2
  rw [e, readS_text q2]
theorem stampO_ok {m : MkM} {key : List Int} {se sec : Int} (h : (stampO m key se sec).2 = 0) : codeO m se sec = 0 ∧ fault m key = 0 := by
  unfold stampO at h
  split at h
  · rename_i hc
    split at h
    · rename_i hf; exact ⟨hc, hf⟩
    · cases h
  · rename_i hc; exact absurd h hc
theorem st_back {m : MkM} {key : List Int} {se sec : Int} (h : (stampO m key se sec).2 = 0) : ∃ n, (0 ≤ n ∧ n < allN m) ∧ allN m ≤ 262144 ∧ isMk m = true ∧ (0 ≤ se ∧ se ≤ 25) ∧ (stampO m key se sec) = (stampS (itoa (allN m)).length se n, 0) ∧
    readO m (stampS (itoa (allN m)).length se n) sec = (key, se, 0) ∧ rdOk m (stampS (itoa (allN m)).length se n) sec = true ∧ readS (allN m) (stampS (itoa (allN m)).length se n) = (se, n, true) := by
  obtain ⟨hc, hf⟩ := stampO_ok h
  obtain ⟨hm, hse, hsec⟩ := codeO_ok hc
  obtain ⟨hrk, hat⟩ := rank_index (KeyOk.of_fault hf)
  have hN := allN_bound hm
  have hlen := allN_len m
  have h1 := Int.tmod_nonneg (allN m) (show 0 ≤ (rankTo m key key.length + sec : Int) by omega)
  have h2 := Int.tmod_lt_of_pos (rankTo m key key.length + sec : Int) (show 0 < allN m by omega)
  have hS := readS_stamp hse (n := ((rankTo m key key.length + sec : Int).tmod (allN m))) ⟨h1, h2⟩ hN.2
  have hrd : rdOk m (stampS (itoa (allN m)).length se ((rankTo m key key.length + sec : Int).tmod (allN m))) sec = true := by
    rw [rdOk, hS, codeO_iff.2 ⟨hm, by omega, hsec⟩]; rfl
  refine ⟨(rankTo m key key.length + sec : Int).tmod (allN m), ⟨h1, h2⟩, hN.2, hm, hse, by rw [stampO, if_pos hc, if_pos hf], ?_, hrd, hS⟩
  rw [(rdOk_ok hrd).2.2.2.2.2, hS]
  dsimp only
  have e : ((rankTo m key key.length + sec : Int).tmod (allN m) + allN m - sec).tmod (allN m) = (rankTo m key key.length : Int) := by
    rw [Int.tmod_eq_emod_of_nonneg (by omega), Int.tmod_eq_emod_of_nonneg (by omega)]
    have a1 := Int.emod_add_mul_ediv (rankTo m key key.length + sec : Int) (allN m)
    have e2 : ((rankTo m key key.length + sec : Int) % allN m + allN m - sec) % allN m = ((rankTo m key key.length + sec : Int) - sec) % allN m := by
      rw [show (rankTo m key key.length + sec : Int) % allN m + allN m - sec = ((rankTo m key key.length + sec : Int) % allN m - sec) + allN m by omega, Int.add_emod_right, Int.sub_emod, Int.emod_emod, ← Int.sub_emod]
    rw [e2, show (rankTo m key key.length + sec : Int) - sec = rankTo m key key.length by omega]
    exact Int.emod_eq_of_lt (by omega) (by omega)
  rw [e]
  have : atK m (rankTo m key key.length : Int) = key := by
    unfold atK
    rw [Int.toNat_natCast]
    simp only [List.getD_eq_getElem?_getD, List.getElem?_eq_getElem hrk, Option.getD_some]
    exact hat
  rw [this]
end Go.Vc


/-
  The contracts of the laws on stamps that are drawn.
-/
set_option linter.unusedVariables false
set_option linter.unusedSimpArgs false
set_option linter.unnecessarySimpa false
namespace Go.Vc
open Go.Proofs Go.Lib
set_option maxRecDepth 100000
theorem c_likeNil : Fn Tryz.prog 13 [eNil, eIs []] true (· = eB true) :=
  (c_likeIntsE [] (by simp)).subs (args' := [eNil, eIs []]) (.cons (.nil _) (.cons (.refl _) .nil))
set_option maxHeartbeats 16000000 in
theorem c_FnStamps (bs : List UInt8) (h : bs.length ≤ 9223372036854775807) : Fn Tryz.prog 3 [eYs bs] true (· = eB true) := by
  refine Fn.of_vcN 198 [.tmp 2] Tryz.func3 rfl rfl rfl rfl rfl (of_decide_eq_true rfl) ?_
  simp -dsimp -implicitDefEqProofs only [go_sem, ↓reduceIte, Nat.reduceEqDiff, Nat.reduceLT, Nat.reduceAdd, Nat.reduceMul, Nat.reduceLeDiff, Nat.le_refl, Int.natCast_zero, Int.toNat_natCast, Int.reduceToNat]
  refine sCallT_one (c_big bs h) ?_
  rcases hb : decide ((bs.length : Int) > 4096) with _ | _
  rotate_left
  · simp -dsimp -implicitDefEqProofs only [go_sem, ↓reduceIte, Nat.reduceEqDiff, Nat.reduceLT, Nat.reduceAdd, Nat.reduceMul, Nat.reduceLeDiff, Nat.le_refl, Int.natCast_zero, Int.toNat_natCast, Int.reduceToNat, hb]
  have hl : bs.length ≤ 4096 := by have := of_decide_eq_false hb; omega
  have d1 := c_DrawStampOf bs hl
  have d2 := c_DrawReadStamp bs hl
  have k1 : (stOD bs (src0 bs)).key.length ≤ 20 := (keyD_ok bs (mkD_bnd bs (src0_ok bs)) (mkD_ok bs (src0_ok bs))).2
  have k2 : (rdOD bs (src0 bs)).s.length ≤ 1001 := (stD_ok bs (src0_ok bs)).2
  generalize stOD bs (src0 bs) = A at *
  generalize rdOD bs (src0 bs) = B at *
  obtain ⟨m, key, se, sec⟩ := A
  obtain ⟨x, s, oth⟩ := B
  dsimp only at *
  have q1 := c_iStampOf m key se sec (by omega)
  have q2 := c_sStampOf m key se sec (by omega)
  have q3 := c_iReadStamp x s oth (by omega)
  have q4 := c_sReadStamp x s oth (by omega)
  have hK : rdOk x s oth = false → rdAV x s oth = .val (.slice none 0 0) ∧ (readO x s oth).1 = [] ∧ ((readO x s oth).2.2 == 0) = false := by
    intro hro
    refine ⟨by rw [rdAV, if_neg (by rw [hro]; exact fun h => by cases h)], ?_⟩
    unfold rdOk at hro
    unfold readO
    split
    · rename_i hc
      rw [decide_eq_true hc, Bool.true_and] at hro
      rw [if_neg (by rw [hro]; exact fun h => by cases h)]
      exact ⟨rfl, rfl⟩
    · rename_i hc
      exact ⟨rfl, beq_eq_false_iff_ne.2 hc⟩
  have hO : rdOk x s oth = true → rdAV x s oth = eIs (readO x s oth).1 ∧ (readO x s oth).2.2 = 0 ∧ (readO x s oth).1.length ≤ 6 ∧ stampO x (readO x s oth).1 (readO x s oth).2.1 oth = (s, 0) := by
    intro hro
    obtain ⟨a0, a1, a2, a3, a4, a5⟩ := rdOk_ok hro
    obtain ⟨-, -, hk, -⟩ := at_mod a0 (x := (readS (allN x) s).2.1 + allN x - oth) (by omega) (by omega)
    have := hk.len
    have hn := isMk_num a0
    exact ⟨by rw [rdAV, if_pos hro], by rw [a5], by rw [a5]; dsimp only; omega, rd_again hro⟩
  by_cases hbad : (stampO m key se sec).2 = 0
  · obtain ⟨n, hn, hN, hm, hse, g1, g2, g3, g4⟩ := st_back hbad
    have q7 := c_iReadStamp m (stampS (itoa (allN m)).length se n) sec (by rw [stamp_len hse hn hN]; have : (itoa (allN m)).length ≤ 6 := (by rw [itoa_of_nonneg (by omega)]; exact dec_len_le 5 _ (by omega)); omega)
    rw [show rdAV m (stampS (itoa (allN m)).length se n) sec = eIs (readO m (stampS (itoa (allN m)).length se n) sec).1 by rw [rdAV, if_pos g3], g2] at q7
    have q8 := c_iStampWidth m
    have q9 := fun t h => c_iIsStamp m t h
    have q10 := c_likeIntsE key (by omega)
    rw [hm] at q8
    simp only [hm, if_true, Bool.true_and] at q8 q9
    have htl := stamp_len hse hn hN
    have hw6 : (itoa (allN m)).length ≤ 6 := by rw [itoa_of_nonneg (by omega)]; exact dec_len_le 5 _ (by omega)
    have hat : ∀ i (h1 : 1 ≤ i) (hi : i < (stampS (itoa (allN m)).length se n).length), isDg (stampS (itoa (allN m)).length se n)[i] = true ∨ (stampS (itoa (allN m)).length se n)[i] = 45 := fun i h1 hi => stamp_at hse hn hN h1 hi
    have hsp : ∀ i (x : UInt8) (h1 : 1 ≤ i) (hi : i < (stampS (itoa (allN m)).length se n).length), isDg x = true → isDg (stampS (itoa (allN m)).length se n)[i] = true → x ≠ (stampS (itoa (allN m)).length se n)[i] → (readS (allN m) ((stampS (itoa (allN m)).length se n).set i x)).2.2 = false := fun i x h1 hi a b c => spoilt hse hn hN h1 hi a b c
    have q11 := q9 (stampS (itoa (allN m)).length se n) (by omega)
    rw [g4] at q11
    clear g2 g3 g4 hm hn hse hbad
    generalize stampS (itoa (allN m)).length se n = t at *
    generalize (itoa (allN m)).length = W at *
    generalize allN m = N at *
    have hlw : ((t.length : Int) != (W : Int) + 4) = false := by rw [htl]; simp
    rcases hro : rdOk x s oth with _ | _
    case' false => ((obtain ⟨e1, e2, e3⟩ := hK hro; rw [e1] at q3; rw [e2] at q4; clear e1 e2 hro hK hO; generalize readO x s oth = R at *; generalize stampO m key se sec = T at *; simp -dsimp -implicitDefEqProofs only [go_sem, ↓reduceIte, Nat.reduceEqDiff, Nat.reduceLT, Nat.reduceAdd, Nat.reduceMul, Nat.reduceLeDiff, Nat.le_refl, Int.natCast_zero, Int.toNat_natCast, Int.reduceToNat, hb]; (refine sCallS_one (d1) (by simp [noLabs, labs, labsL, isClo]) ?_; simp -dsimp -implicitDefEqProofs only [go_sem, ↓reduceIte, Nat.reduceEqDiff, Nat.reduceLT, Nat.reduceAdd, Nat.reduceMul, Nat.reduceLeDiff, Nat.le_refl, Int.natCast_zero, Int.toNat_natCast, Int.reduceToNat]); (refine sCallT_one (q1) ?_; simp -dsimp -implicitDefEqProofs only [go_sem, ↓reduceIte, Nat.reduceEqDiff, Nat.reduceLT, Nat.reduceAdd, Nat.reduceMul, Nat.reduceLeDiff, Nat.le_refl, Int.natCast_zero, Int.toNat_natCast, Int.reduceToNat]); (refine sCallT_one (q2) ?_; simp -dsimp -implicitDefEqProofs only [go_sem, ↓reduceIte, Nat.reduceEqDiff, Nat.reduceLT, Nat.reduceAdd, Nat.reduceMul, Nat.reduceLeDiff, Nat.le_refl, Int.natCast_zero, Int.toNat_natCast, Int.reduceToNat]); (refine sCallS_one (d2) (by simp [noLabs, labs, labsL, isClo]) ?_; simp -dsimp -implicitDefEqProofs only [go_sem, ↓reduceIte, Nat.reduceEqDiff, Nat.reduceLT, Nat.reduceAdd, Nat.reduceMul, Nat.reduceLeDiff, Nat.le_refl, Int.natCast_zero, Int.toNat_natCast, Int.reduceToNat]); (refine sCallS_one (q3) (by simp [noLabs, labs, labsL, isClo]) ?_; simp -dsimp -implicitDefEqProofs only [go_sem, ↓reduceIte, Nat.reduceEqDiff, Nat.reduceLT, Nat.reduceAdd, Nat.reduceMul, Nat.reduceLeDiff, Nat.le_refl, Int.natCast_zero, Int.toNat_natCast, Int.reduceToNat]); (refine sCallT_one (q4) ?_; simp -dsimp -implicitDefEqProofs only [go_sem, ↓reduceIte, Nat.reduceEqDiff, Nat.reduceLT, Nat.reduceAdd, Nat.reduceMul, Nat.reduceLeDiff, Nat.le_refl, Int.natCast_zero, Int.toNat_natCast, Int.reduceToNat]); (refine sCallT_one (c_likeNil) ?_; simp -dsimp -implicitDefEqProofs only [go_sem, ↓reduceIte, Nat.reduceEqDiff, Nat.reduceLT, Nat.reduceAdd, Nat.reduceMul, Nat.reduceLeDiff, Nat.le_refl, Int.natCast_zero, Int.toNat_natCast, Int.reduceToNat]); simp -dsimp -implicitDefEqProofs only [go_sem, ↓reduceIte, Nat.reduceEqDiff, Nat.reduceLT, Nat.reduceAdd, Nat.reduceMul, Nat.reduceLeDiff, Nat.le_refl, Int.natCast_zero, Int.toNat_natCast, Int.reduceToNat, e3]))
    case' true => ((obtain ⟨e1, e2, e4, e5⟩ := hO hro; rw [e1] at q3; have q5 := c_iStampOf x (readO x s oth).1 (readO x s oth).2.1 oth (by omega); rw [e5] at q5; rw [e2] at q3 q4; have q6 := c_likeIntsE (readO x s oth).1 (by omega); clear e1 e2 e5 hro hK hO; generalize readO x s oth = R at *; generalize stampO m key se sec = T at *; simp -dsimp -implicitDefEqProofs only [go_sem, ↓reduceIte, Nat.reduceEqDiff, Nat.reduceLT, Nat.reduceAdd, Nat.reduceMul, Nat.reduceLeDiff, Nat.le_refl, Int.natCast_zero, Int.toNat_natCast, Int.reduceToNat, hb]; (refine sCallS_one (d1) (by simp [noLabs, labs, labsL, isClo]) ?_; simp -dsimp -implicitDefEqProofs only [go_sem, ↓reduceIte, Nat.reduceEqDiff, Nat.reduceLT, Nat.reduceAdd, Nat.reduceMul, Nat.reduceLeDiff, Nat.le_refl, Int.natCast_zero, Int.toNat_natCast, Int.reduceToNat]); (refine sCallT_one (q1) ?_; simp -dsimp -implicitDefEqProofs only [go_sem, ↓reduceIte, Nat.reduceEqDiff, Nat.reduceLT, Nat.reduceAdd, Nat.reduceMul, Nat.reduceLeDiff, Nat.le_refl, Int.natCast_zero, Int.toNat_natCast, Int.reduceToNat]); (refine sCallT_one (q2) ?_; simp -dsimp -implicitDefEqProofs only [go_sem, ↓reduceIte, Nat.reduceEqDiff, Nat.reduceLT, Nat.reduceAdd, Nat.reduceMul, Nat.reduceLeDiff, Nat.le_refl, Int.natCast_zero, Int.toNat_natCast, Int.reduceToNat]); (refine sCallS_one (d2) (by simp [noLabs, labs, labsL, isClo]) ?_; simp -dsimp -implicitDefEqProofs only [go_sem, ↓reduceIte, Nat.reduceEqDiff, Nat.reduceLT, Nat.reduceAdd, Nat.reduceMul, Nat.reduceLeDiff, Nat.le_refl, Int.natCast_zero, Int.toNat_natCast, Int.reduceToNat]); (refine sCallS_one (q3) (by simp [noLabs, labs, labsL, isClo]) ?_; simp -dsimp -implicitDefEqProofs only [go_sem, ↓reduceIte, Nat.reduceEqDiff, Nat.reduceLT, Nat.reduceAdd, Nat.reduceMul, Nat.reduceLeDiff, Nat.le_refl, Int.natCast_zero, Int.toNat_natCast, Int.reduceToNat]); (refine sCallT_one (q4) ?_; simp -dsimp -implicitDefEqProofs only [go_sem, ↓reduceIte, Nat.reduceEqDiff, Nat.reduceLT, Nat.reduceAdd, Nat.reduceMul, Nat.reduceLeDiff, Nat.le_refl, Int.natCast_zero, Int.toNat_natCast, Int.reduceToNat]); (refine sCallT_one (q6) ?_; simp -dsimp -implicitDefEqProofs only [go_sem, ↓reduceIte, Nat.reduceEqDiff, Nat.reduceLT, Nat.reduceAdd, Nat.reduceMul, Nat.reduceLeDiff, Nat.le_refl, Int.natCast_zero, Int.toNat_natCast, Int.reduceToNat]); (try simp -dsimp -implicitDefEqProofs only [go_sem, ↓reduceIte, Nat.reduceEqDiff, Nat.reduceLT, Nat.reduceAdd, Nat.reduceMul, Nat.reduceLeDiff, Nat.le_refl, Int.natCast_zero, Int.toNat_natCast, Int.reduceToNat, zeroEq]); (refine sCallT_one (q5) ?_; simp -dsimp -implicitDefEqProofs only [go_sem, ↓reduceIte, Nat.reduceEqDiff, Nat.reduceLT, Nat.reduceAdd, Nat.reduceMul, Nat.reduceLeDiff, Nat.le_refl, Int.natCast_zero, Int.toNat_natCast, Int.reduceToNat]); (try simp -dsimp -implicitDefEqProofs only [go_sem, ↓reduceIte, Nat.reduceEqDiff, Nat.reduceLT, Nat.reduceAdd, Nat.reduceMul, Nat.reduceLeDiff, Nat.le_refl, Int.natCast_zero, Int.toNat_natCast, Int.reduceToNat, zeroNe])))
    all_goals
      subst g1
      simp -dsimp -implicitDefEqProofs only [go_sem, ↓reduceIte, Nat.reduceEqDiff, Nat.reduceLT, Nat.reduceAdd, Nat.reduceMul, Nat.reduceLeDiff, Nat.le_refl, Int.natCast_zero, Int.toNat_natCast, Int.reduceToNat]
      (refine sCallS_one (q7) (by simp [noLabs, labs, labsL, isClo]) ?_; simp -dsimp -implicitDefEqProofs only [go_sem, ↓reduceIte, Nat.reduceEqDiff, Nat.reduceLT, Nat.reduceAdd, Nat.reduceMul, Nat.reduceLeDiff, Nat.le_refl, Int.natCast_zero, Int.toNat_natCast, Int.reduceToNat])
      (refine sCallT_one (q8) ?_; simp -dsimp -implicitDefEqProofs only [go_sem, ↓reduceIte, Nat.reduceEqDiff, Nat.reduceLT, Nat.reduceAdd, Nat.reduceMul, Nat.reduceLeDiff, Nat.le_refl, Int.natCast_zero, Int.toNat_natCast, Int.reduceToNat])
      (refine sCallT_one (q10) ?_; simp -dsimp -implicitDefEqProofs only [go_sem, ↓reduceIte, Nat.reduceEqDiff, Nat.reduceLT, Nat.reduceAdd, Nat.reduceMul, Nat.reduceLeDiff, Nat.le_refl, Int.natCast_zero, Int.toNat_natCast, Int.reduceToNat])
      simp -dsimp -implicitDefEqProofs only [go_sem, ↓reduceIte, Nat.reduceEqDiff, Nat.reduceLT, Nat.reduceAdd, Nat.reduceMul, Nat.reduceLeDiff, Nat.le_refl, Int.natCast_zero, Int.toNat_natCast, Int.reduceToNat, hlw]
      (refine sCallT_one (q11) ?_; simp -dsimp -implicitDefEqProofs only [go_sem, ↓reduceIte, Nat.reduceEqDiff, Nat.reduceLT, Nat.reduceAdd, Nat.reduceMul, Nat.reduceLeDiff, Nat.le_refl, Int.natCast_zero, Int.toNat_natCast, Int.reduceToNat])
      simp -dsimp -implicitDefEqProofs only [go_sem, ↓reduceIte, Nat.reduceEqDiff, Nat.reduceLT, Nat.reduceAdd, Nat.reduceMul, Nat.reduceLeDiff, Nat.le_refl, Int.natCast_zero, Int.toNat_natCast, Int.reduceToNat, hlw]
      refine sCallT_inl 800000 38 [.tmp 4] Tryz.func16 rfl rfl rfl rfl rfl (by exact of_decide_eq_true rfl) ?_
      simp -dsimp -implicitDefEqProofs only [go_sem, ↓reduceIte, Nat.reduceEqDiff, Nat.reduceLT, Nat.reduceAdd, Nat.reduceMul, Nat.reduceLeDiff, Nat.le_refl, Int.natCast_zero, Int.toNat_natCast, Int.reduceToNat]
      refine Later.lp [0, 5] [18] [15] (fun x : Nat × Int => x.1 ≤ bs.length) (fun x => [(6, eI x.1)]) (fun x => [(15, dieB 0 bs 0 x.2)]) (fun x => bs.length - x.1) (0, IntKind.u64.wrap (IntKind.u64.wrap (2801 * 7919) + IntKind.u64.wrap bs.length)) (Nat.zero_le _) ?_ rfl (fun x hI => ?_)
      · simp -dsimp -implicitDefEqProofs only [go_sem, ↓reduceIte, Nat.reduceEqDiff, Nat.reduceLT, Nat.reduceAdd, Nat.reduceMul, Nat.reduceLeDiff, Nat.le_refl, Int.natCast_zero, Int.toNat_natCast, Int.reduceToNat]
      · obtain ⟨i, H⟩ := x
        dsimp only at hI ⊢
        by_cases hi : i < bs.length
        · have hbt := (bs[i]).toNat_lt
          have gi := get_some hi
          have li := lt_len hi
          generalize bs[i] = b at *
          simp -dsimp -implicitDefEqProofs only [pick_nil, pick_cons, look_nil, look_cons, dropB_nil, dropB_cons, inD_nil, inD_cons, inE_nil, inE_cons, or_t_l, or_f_l, Nat.reduceBEq, Nat.reduceDiv, Nat.reduceAdd, beq_self_eq_true, Bool.false_eq_true, Bool.or_false, ↓reduceIte, Nat.reduceEqDiff, List.cons_append, List.nil_append]
          simp -dsimp -implicitDefEqProofs only [go_sem, ↓reduceIte, Nat.reduceEqDiff, Nat.reduceLT, Nat.reduceAdd, Nat.reduceMul, Nat.reduceLeDiff, Nat.le_refl, Int.natCast_zero, Int.toNat_natCast, Int.reduceToNat, li]
          refine Later.draw mixed rfl ?_
          simp -dsimp -implicitDefEqProofs only [go_sem, ↓reduceIte, Nat.reduceEqDiff, Nat.reduceLT, Nat.reduceAdd, Nat.reduceMul, Nat.reduceLeDiff, Nat.le_refl, Int.natCast_zero, Int.toNat_natCast, Int.reduceToNat, gi]
          repeat' (with_reducible refine And.intro ?_ ?_)
          all_goals try (first | omega | (refine ⟨?_, ?_⟩ <;> omega) | (exact rfl) | (simp; done) | decide)
          refine ⟨(i + 1, IntKind.u64.wrap (IntKind.u64.wrap (IntKind.u64.wrap (H * 1099511628211) + IntKind.u64.wrap (b.toNat : Int)) + 3)), hi, by dsimp only; omega, ?_⟩
          simp -dsimp -implicitDefEqProofs only [go_sem, ↓reduceIte, Nat.reduceEqDiff, Nat.reduceLT, Nat.reduceAdd, Nat.reduceMul, Nat.reduceLeDiff, Nat.le_refl, Int.natCast_zero, Int.toNat_natCast, Int.reduceToNat]
          all_goals simp
        · have hie : i = bs.length := by omega
          subst hie
          have hn1 : (0 : Int) < (t.length : Int) - 1 := by omega
          have c1 := fun v => c_belowX v bs 0 H ((t.length : Int) - 1) (Nat.zero_le _) hn1 hl
          have c1' := die_in bs 0 H hn1
          generalize die bs 0 H ((t.length : Int) - 1) = r1 at *
          have hdI := dieI_le (bs := bs) (i := 0) (Nat.zero_le _)
          generalize dieI bs 0 = I1 at *
          generalize dieH H = H1 at *
          have c2 := fun v => c_belowX v bs I1 H1 9 hdI (by omega) hl
          have c2' := die_in bs I1 H1 (n := 9) (by omega)
          generalize die bs I1 H1 9 = r2 at *
          generalize dieI bs I1 = I2 at *
          generalize dieH H1 = H2 at *
          obtain ⟨j, rfl⟩ : ∃ j : Nat, r1 = j := ⟨r1.toNat, by omega⟩
          have hj : j + 1 < t.length := by omega
          have hyb := hat (j + 1) (by omega) hj
          have hsp := fun (x : UInt8) => hsp (j + 1) x (by omega) hj
          have gy : t[j + 1]? = some t[j + 1] := List.getElem?_eq_getElem hj
          generalize t[j + 1] = y at *
          simp -dsimp -implicitDefEqProofs only [pick_nil, pick_cons, look_nil, look_cons, dropB_nil, dropB_cons, inD_nil, inD_cons, inE_nil, inE_cons, or_t_l, or_f_l, Nat.reduceBEq, Nat.reduceDiv, Nat.reduceAdd, beq_self_eq_true, Bool.false_eq_true, Bool.or_false, ↓reduceIte, Nat.reduceEqDiff, List.cons_append, List.nil_append]
          simp -dsimp -implicitDefEqProofs only [go_sem, ↓reduceIte, Nat.reduceEqDiff, Nat.reduceLT, Nat.reduceAdd, Nat.reduceMul, Nat.reduceLeDiff, Nat.le_refl, Int.natCast_zero, Int.toNat_natCast, Int.reduceToNat, nlt_len]
          refine ⟨by omega, ⟨by omega, by omega⟩, ?_⟩
          refine sCallT_io [800015] ?_
          simp -dsimp -implicitDefEqProofs only [go_sem, ↓reduceIte, Nat.reduceEqDiff, Nat.reduceLT, Nat.reduceAdd, Nat.reduceMul, Nat.reduceLeDiff, Nat.le_refl, Int.natCast_zero, Int.toNat_natCast, Int.reduceToNat]
          refine sCallM_one (c1 _) ?_
          simp -dsimp -implicitDefEqProofs only [go_sem, ↓reduceIte, Nat.reduceEqDiff, Nat.reduceLT, Nat.reduceAdd, Nat.reduceMul, Nat.reduceLeDiff, Nat.le_refl, Int.natCast_zero, Int.toNat_natCast, Int.reduceToNat]
          ((repeat' (with_reducible refine And.intro ?_ ?_)); all_goals try (first | omega | (refine ⟨?_, ?_⟩ <;> omega) | (exact rfl)))
          have ej : (1 + (j : Int)).toNat = j + 1 := by omega
          simp -dsimp -implicitDefEqProofs only [go_sem, ↓reduceIte, Nat.reduceEqDiff, Nat.reduceLT, Nat.reduceAdd, Nat.reduceMul, Nat.reduceLeDiff, Nat.le_refl, Int.natCast_zero, Int.toNat_natCast, Int.reduceToNat, ej, gy]
          rcases h45 : ((y.toNat : Int) == 45) with _ | _
          rotate_left
          · simp -dsimp -implicitDefEqProofs only [go_sem, ↓reduceIte, Nat.reduceEqDiff, Nat.reduceLT, Nat.reduceAdd, Nat.reduceMul, Nat.reduceLeDiff, Nat.le_refl, Int.natCast_zero, Int.toNat_natCast, Int.reduceToNat, h45]
          have hdg : isDg y = true := by
            rcases hyb with h | h
            · exact h
            · rw [h] at h45; cases h45
          have hdg2 : 48 ≤ y.toNat ∧ y.toNat ≤ 57 := by simpa [isDg] using hdg
          have hw1 : IntKind.u8.wrap ((y.toNat : Int) - 48) = (y.toNat : Int) - 48 := u8_wrap (by omega)
          have hq := tmod_in (x := (y.toNat : Int) - 48 + 1 + r2) (n := 10) (by omega) (by omega)
          have hqne : ((y.toNat : Int) - 48 + 1 + r2).tmod 10 ≠ (y.toNat : Int) - 48 := by
            rw [Int.tmod_eq_emod_of_nonneg (by omega)]; omega
          simp -dsimp -implicitDefEqProofs only [go_sem, ↓reduceIte, Nat.reduceEqDiff, Nat.reduceLT, Nat.reduceAdd, Nat.reduceMul, Nat.reduceLeDiff, Nat.le_refl, Int.natCast_zero, Int.toNat_natCast, Int.reduceToNat, h45]
          refine Later.draw mixed rfl ?_
          simp -dsimp -implicitDefEqProofs only [go_sem, ↓reduceIte, Nat.reduceEqDiff, Nat.reduceLT, Nat.reduceAdd, Nat.reduceMul, Nat.reduceLeDiff, Nat.le_refl, Int.natCast_zero, Int.toNat_natCast, Int.reduceToNat, ej, gy, hw1]
          ((repeat' (with_reducible refine And.intro ?_ ?_)); all_goals try (first | omega | (refine ⟨?_, ?_⟩ <;> omega) | (exact rfl)))
          refine sCallX_io [800015] rfl ?_
          simp -dsimp -implicitDefEqProofs only [go_sem, ↓reduceIte, Nat.reduceEqDiff, Nat.reduceLT, Nat.reduceAdd, Nat.reduceMul, Nat.reduceLeDiff, Nat.le_refl, Int.natCast_zero, Int.toNat_natCast, Int.reduceToNat]
          refine sCallMX_one (c2 _) ?_
          obtain ⟨q, hqd⟩ : ∃ q, ((y.toNat : Int) - 48 + 1 + r2).tmod 10 = q := ⟨_, rfl⟩
          rw [hqd] at hq hqne
          have hw2 : IntKind.u8.wrap (48 + q) = 48 + q := u8_wrap (by omega)
          have hxn : (UInt8.ofNat (48 + q).toNat).toNat = (48 + q).toNat := by rw [UInt8.toNat_ofNat']; omega
          have hxd : isDg (UInt8.ofNat (48 + q).toNat) = true := by
            unfold isDg; rw [hxn, decide_eq_true (by omega), decide_eq_true (by omega)]; rfl
          have hbadS := hsp (UInt8.ofNat (48 + q).toNat) hxd hdg (fun h => by
            rw [h] at hxn; omega)
          have q12 := q9 (t.set (j + 1) (UInt8.ofNat (48 + q).toNat)) (by simp; omega)
          rw [hbadS] at q12
          have hset : (List.map (fun b : UInt8 => AV.val (.int .u8 b.toNat)) t).set (j + 1) (.val (.int .u8 (48 + q))) = List.map (fun b : UInt8 => AV.val (.int .u8 b.toNat)) (t.set (j + 1) (UInt8.ofNat (48 + q).toNat)) := by
            rw [List.map_set, hxn, Int.toNat_of_nonneg (by omega)]
          simp -dsimp -implicitDefEqProofs only [go_sem, ↓reduceIte, Nat.reduceEqDiff, Nat.reduceLT, Nat.reduceAdd, Nat.reduceMul, Nat.reduceLeDiff, Nat.le_refl, Int.natCast_zero, Int.toNat_natCast, Int.reduceToNat, hqd, hw2, ej, hset]
          ((repeat' (with_reducible refine And.intro ?_ ?_)); all_goals try (first | omega | (refine ⟨?_, ?_⟩ <;> omega) | (exact rfl)))
          simp -dsimp -implicitDefEqProofs only [go_sem, ↓reduceIte, Nat.reduceEqDiff, Nat.reduceLT, Nat.reduceAdd, Nat.reduceMul, Nat.reduceLeDiff, Nat.le_refl, Int.natCast_zero, Int.toNat_natCast, Int.reduceToNat, gy, hset]
          refine ⟨by exact rfl, ?_⟩
          (refine sCallT_one (q12) ?_; simp -dsimp -implicitDefEqProofs only [go_sem, ↓reduceIte, Nat.reduceEqDiff, Nat.reduceLT, Nat.reduceAdd, Nat.reduceMul, Nat.reduceLeDiff, Nat.le_refl, Int.natCast_zero, Int.toNat_natCast, Int.reduceToNat])
  · have hbad2 : ((stampO m key se sec).2 != 0) = true := bne_iff_ne.2 hbad
    rcases hro : rdOk x s oth with _ | _
    case' false => ((obtain ⟨e1, e2, e3⟩ := hK hro; rw [e1] at q3; rw [e2] at q4; clear e1 e2 hro hK hO; generalize readO x s oth = R at *; generalize stampO m key se sec = T at *; simp -dsimp -implicitDefEqProofs only [go_sem, ↓reduceIte, Nat.reduceEqDiff, Nat.reduceLT, Nat.reduceAdd, Nat.reduceMul, Nat.reduceLeDiff, Nat.le_refl, Int.natCast_zero, Int.toNat_natCast, Int.reduceToNat, hb]; (refine sCallS_one (d1) (by simp [noLabs, labs, labsL, isClo]) ?_; simp -dsimp -implicitDefEqProofs only [go_sem, ↓reduceIte, Nat.reduceEqDiff, Nat.reduceLT, Nat.reduceAdd, Nat.reduceMul, Nat.reduceLeDiff, Nat.le_refl, Int.natCast_zero, Int.toNat_natCast, Int.reduceToNat]); (refine sCallT_one (q1) ?_; simp -dsimp -implicitDefEqProofs only [go_sem, ↓reduceIte, Nat.reduceEqDiff, Nat.reduceLT, Nat.reduceAdd, Nat.reduceMul, Nat.reduceLeDiff, Nat.le_refl, Int.natCast_zero, Int.toNat_natCast, Int.reduceToNat]); (refine sCallT_one (q2) ?_; simp -dsimp -implicitDefEqProofs only [go_sem, ↓reduceIte, Nat.reduceEqDiff, Nat.reduceLT, Nat.reduceAdd, Nat.reduceMul, Nat.reduceLeDiff, Nat.le_refl, Int.natCast_zero, Int.toNat_natCast, Int.reduceToNat]); (refine sCallS_one (d2) (by simp [noLabs, labs, labsL, isClo]) ?_; simp -dsimp -implicitDefEqProofs only [go_sem, ↓reduceIte, Nat.reduceEqDiff, Nat.reduceLT, Nat.reduceAdd, Nat.reduceMul, Nat.reduceLeDiff, Nat.le_refl, Int.natCast_zero, Int.toNat_natCast, Int.reduceToNat]); (refine sCallS_one (q3) (by simp [noLabs, labs, labsL, isClo]) ?_; simp -dsimp -implicitDefEqProofs only [go_sem, ↓reduceIte, Nat.reduceEqDiff, Nat.reduceLT, Nat.reduceAdd, Nat.reduceMul, Nat.reduceLeDiff, Nat.le_refl, Int.natCast_zero, Int.toNat_natCast, Int.reduceToNat]); (refine sCallT_one (q4) ?_; simp -dsimp -implicitDefEqProofs only [go_sem, ↓reduceIte, Nat.reduceEqDiff, Nat.reduceLT, Nat.reduceAdd, Nat.reduceMul, Nat.reduceLeDiff, Nat.le_refl, Int.natCast_zero, Int.toNat_natCast, Int.reduceToNat]); (refine sCallT_one (c_likeNil) ?_; simp -dsimp -implicitDefEqProofs only [go_sem, ↓reduceIte, Nat.reduceEqDiff, Nat.reduceLT, Nat.reduceAdd, Nat.reduceMul, Nat.reduceLeDiff, Nat.le_refl, Int.natCast_zero, Int.toNat_natCast, Int.reduceToNat]); simp -dsimp -implicitDefEqProofs only [go_sem, ↓reduceIte, Nat.reduceEqDiff, Nat.reduceLT, Nat.reduceAdd, Nat.reduceMul, Nat.reduceLeDiff, Nat.le_refl, Int.natCast_zero, Int.toNat_natCast, Int.reduceToNat, e3]))
    case' true => ((obtain ⟨e1, e2, e4, e5⟩ := hO hro; rw [e1] at q3; have q5 := c_iStampOf x (readO x s oth).1 (readO x s oth).2.1 oth (by omega); rw [e5] at q5; rw [e2] at q3 q4; have q6 := c_likeIntsE (readO x s oth).1 (by omega); clear e1 e2 e5 hro hK hO; generalize readO x s oth = R at *; generalize stampO m key se sec = T at *; simp -dsimp -implicitDefEqProofs only [go_sem, ↓reduceIte, Nat.reduceEqDiff, Nat.reduceLT, Nat.reduceAdd, Nat.reduceMul, Nat.reduceLeDiff, Nat.le_refl, Int.natCast_zero, Int.toNat_natCast, Int.reduceToNat, hb]; (refine sCallS_one (d1) (by simp [noLabs, labs, labsL, isClo]) ?_; simp -dsimp -implicitDefEqProofs only [go_sem, ↓reduceIte, Nat.reduceEqDiff, Nat.reduceLT, Nat.reduceAdd, Nat.reduceMul, Nat.reduceLeDiff, Nat.le_refl, Int.natCast_zero, Int.toNat_natCast, Int.reduceToNat]); (refine sCallT_one (q1) ?_; simp -dsimp -implicitDefEqProofs only [go_sem, ↓reduceIte, Nat.reduceEqDiff, Nat.reduceLT, Nat.reduceAdd, Nat.reduceMul, Nat.reduceLeDiff, Nat.le_refl, Int.natCast_zero, Int.toNat_natCast, Int.reduceToNat]); (refine sCallT_one (q2) ?_; simp -dsimp -implicitDefEqProofs only [go_sem, ↓reduceIte, Nat.reduceEqDiff, Nat.reduceLT, Nat.reduceAdd, Nat.reduceMul, Nat.reduceLeDiff, Nat.le_refl, Int.natCast_zero, Int.toNat_natCast, Int.reduceToNat]); (refine sCallS_one (d2) (by simp [noLabs, labs, labsL, isClo]) ?_; simp -dsimp -implicitDefEqProofs only [go_sem, ↓reduceIte, Nat.reduceEqDiff, Nat.reduceLT, Nat.reduceAdd, Nat.reduceMul, Nat.reduceLeDiff, Nat.le_refl, Int.natCast_zero, Int.toNat_natCast, Int.reduceToNat]); (refine sCallS_one (q3) (by simp [noLabs, labs, labsL, isClo]) ?_; simp -dsimp -implicitDefEqProofs only [go_sem, ↓reduceIte, Nat.reduceEqDiff, Nat.reduceLT, Nat.reduceAdd, Nat.reduceMul, Nat.reduceLeDiff, Nat.le_refl, Int.natCast_zero, Int.toNat_natCast, Int.reduceToNat]); (refine sCallT_one (q4) ?_; simp -dsimp -implicitDefEqProofs only [go_sem, ↓reduceIte, Nat.reduceEqDiff, Nat.reduceLT, Nat.reduceAdd, Nat.reduceMul, Nat.reduceLeDiff, Nat.le_refl, Int.natCast_zero, Int.toNat_natCast, Int.reduceToNat]); (refine sCallT_one (q6) ?_; simp -dsimp -implicitDefEqProofs only [go_sem, ↓reduceIte, Nat.reduceEqDiff, Nat.reduceLT, Nat.reduceAdd, Nat.reduceMul, Nat.reduceLeDiff, Nat.le_refl, Int.natCast_zero, Int.toNat_natCast, Int.reduceToNat]); (try simp -dsimp -implicitDefEqProofs only [go_sem, ↓reduceIte, Nat.reduceEqDiff, Nat.reduceLT, Nat.reduceAdd, Nat.reduceMul, Nat.reduceLeDiff, Nat.le_refl, Int.natCast_zero, Int.toNat_natCast, Int.reduceToNat, zeroEq]); (refine sCallT_one (q5) ?_; simp -dsimp -implicitDefEqProofs only [go_sem, ↓reduceIte, Nat.reduceEqDiff, Nat.reduceLT, Nat.reduceAdd, Nat.reduceMul, Nat.reduceLeDiff, Nat.le_refl, Int.natCast_zero, Int.toNat_natCast, Int.reduceToNat]); (try simp -dsimp -implicitDefEqProofs only [go_sem, ↓reduceIte, Nat.reduceEqDiff, Nat.reduceLT, Nat.reduceAdd, Nat.reduceMul, Nat.reduceLeDiff, Nat.le_refl, Int.natCast_zero, Int.toNat_natCast, Int.reduceToNat, zeroNe])))
    all_goals
      simp -dsimp -implicitDefEqProofs only [go_sem, ↓reduceIte, Nat.reduceEqDiff, Nat.reduceLT, Nat.reduceAdd, Nat.reduceMul, Nat.reduceLeDiff, Nat.le_refl, Int.natCast_zero, Int.toNat_natCast, Int.reduceToNat, hbad2]
end Go.Vc


