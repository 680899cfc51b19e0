/-
  The contract of the law on appended events.
-/
import Derived.Test.YtnmaeefcjdbpcaaGreatDoorDrawLaws
import Derived.Test.YtnmaeefcjdbpcaaGreatDoorAppLaw
set_option linter.unusedVariables false
set_option linter.unusedSimpArgs false
set_option linter.unnecessarySimpa false
namespace Go.Vc
open Go.Proofs Go.Lib
set_option maxRecDepth 100000
attribute [local irreducible] drawEvent drawEvents
attribute [go_sem] decide_true
set_option maxHeartbeats 8000000 in
theorem c_FnAppended (bs : List UInt8) (h : bs.length ≤ 9223372036854775807) : Fn Tryz.prog 4 [eYs bs] true (· = eB true) := by
  refine Fn.of_vcN 218 [.tmp 2] Tryz.func4 rfl rfl rfl rfl rfl (of_decide_eq_true rfl) ?_
  simp -dsimp -implicitDefEqProofs only [go_sem, ↓reduceIte, Nat.reduceEqDiff, Nat.reduceLT, Nat.reduceAdd, Nat.reduceMul, Nat.reduceLeDiff, Nat.le_refl, Int.natCast_zero, Int.toNat_natCast, Int.reduceToNat]
  refine sCallT_one (c_big bs h) ?_
  rcases hb : decide ((bs.length : Int) > 4096) with _ | _
  · have hl : bs.length ≤ 4096 := by have := of_decide_eq_false hb; omega
    simp -dsimp -implicitDefEqProofs only [go_sem, ↓reduceIte, Nat.reduceEqDiff, Nat.reduceLT, Nat.reduceAdd, Nat.reduceMul, Nat.reduceLeDiff, Nat.le_refl, Int.natCast_zero, Int.toNat_natCast, Int.reduceToNat, hb]
    refine sCallT_any (c_DrawAppendEvent bs hl) ?_
    rintro _ ⟨t, e, t1, rfl⟩
    simp -dsimp -implicitDefEqProofs only [go_sem, ↓reduceIte, Nat.reduceEqDiff, Nat.reduceLT, Nat.reduceAdd, Nat.reduceMul, Nat.reduceLeDiff, Nat.le_refl, Int.natCast_zero, Int.toNat_natCast, Int.reduceToNat]
    have a1 := c_iAppendEvent t e (by omega)
    have a2 := c_sAppendEvent t e (by omega)
    have hok := @appE_ok t e
    have hxl := appE_len t e
    have hr0 := rdJ_facts t
    have r0 := c_iReadJournal t (by omega)
    have hri : (appE t e).2 = 0 → Fn Tryz.prog 26 [eS (appE t e).1] true (· = .tup [eEvs ((rdJ t).1 ++ [e]), eI 0]) := fun h => by
      have := c_iReadJournal (appE t e).1 (by omega)
      rw [(hok h).2.1] at this
      exact this
    have hrs : (appE t e).2 = 0 → Fn Tryz.prog 27 [eS (appE t e).1] true (· = .tup [eEvs ((rdJ t).1 ++ [e]), eI 0]) := fun h => by
      have := c_sReadJournal (appE t e).1 (by omega)
      rw [(hok h).2.1] at this
      exact this
    generalize appE t e = q at *
    obtain ⟨x, bad⟩ := q
    generalize rdJ t = w at *
    obtain ⟨b0, eight⟩ := w
    dsimp only at a1 a2 hok hxl hr0 r0 hri hrs
    refine sCallT_one a1 ?_
    simp -dsimp -implicitDefEqProofs only [go_sem, ↓reduceIte, Nat.reduceEqDiff, Nat.reduceLT, Nat.reduceAdd, Nat.reduceMul, Nat.reduceLeDiff, Nat.le_refl, Int.natCast_zero, Int.toNat_natCast, Int.reduceToNat]
    refine sCallT_one a2 ?_
    simp -dsimp -implicitDefEqProofs only [go_sem, ↓reduceIte, Nat.reduceEqDiff, Nat.reduceLT, Nat.reduceAdd, Nat.reduceMul, Nat.reduceLeDiff, Nat.le_refl, Int.natCast_zero, Int.toNat_natCast, Int.reduceToNat]
    clear a1 a2
    refine sCallT_any (c_DrawLastChain bs hl) ?_
    rintro _ ⟨s, s1, rfl⟩
    simp -dsimp -implicitDefEqProofs only [go_sem, ↓reduceIte, Nat.reduceEqDiff, Nat.reduceLT, Nat.reduceAdd, Nat.reduceMul, Nat.reduceLeDiff, Nat.le_refl, Int.natCast_zero, Int.toNat_natCast, Int.reduceToNat]
    have l1 := c_iLastChain s (by omega)
    have l2 := c_sLastChain s (by omega)
    generalize lastC s = q at *
    obtain ⟨c, one⟩ := q
    dsimp only at l1 l2
    refine sCallT_one l1 ?_
    simp -dsimp -implicitDefEqProofs only [go_sem, ↓reduceIte, Nat.reduceEqDiff, Nat.reduceLT, Nat.reduceAdd, Nat.reduceMul, Nat.reduceLeDiff, Nat.le_refl, Int.natCast_zero, Int.toNat_natCast, Int.reduceToNat]
    refine sCallT_one l2 ?_
    simp -dsimp -implicitDefEqProofs only [go_sem, ↓reduceIte, Nat.reduceEqDiff, Nat.reduceLT, Nat.reduceAdd, Nat.reduceMul, Nat.reduceLeDiff, Nat.le_refl, Int.natCast_zero, Int.toNat_natCast, Int.reduceToNat]
    clear l1 l2
    refine sCallT_any (c_DrawEventsBy bs hl) ?_
    rintro _ ⟨y, p, y1, rfl⟩
    simp -dsimp -implicitDefEqProofs only [go_sem, ↓reduceIte, Nat.reduceEqDiff, Nat.reduceLT, Nat.reduceAdd, Nat.reduceMul, Nat.reduceLeDiff, Nat.le_refl, Int.natCast_zero, Int.toNat_natCast, Int.reduceToNat]
    have v1 := c_iEventsBy y p (by omega)
    have v2 := c_sEventsBy y p (by omega)
    have v3 := evBy_len y p
    generalize evBy y p = q at *
    obtain ⟨by1, three⟩ := q
    dsimp only at v1 v2 v3
    refine sCallT_one v1 ?_
    simp -dsimp -implicitDefEqProofs only [go_sem, ↓reduceIte, Nat.reduceEqDiff, Nat.reduceLT, Nat.reduceAdd, Nat.reduceMul, Nat.reduceLeDiff, Nat.le_refl, Int.natCast_zero, Int.toNat_natCast, Int.reduceToNat]
    refine sCallT_one v2 ?_
    simp -dsimp -implicitDefEqProofs only [go_sem, ↓reduceIte, Nat.reduceEqDiff, Nat.reduceLT, Nat.reduceAdd, Nat.reduceMul, Nat.reduceLeDiff, Nat.le_refl, Int.natCast_zero, Int.toNat_natCast, Int.reduceToNat]
    clear v1 v2
    refine sCallT_any (c_DrawReplayJournal bs hl) ?_
    rintro _ ⟨r, j, r1, r2, r3, rfl⟩
    simp -dsimp -implicitDefEqProofs only [go_sem, ↓reduceIte, Nat.reduceEqDiff, Nat.reduceLT, Nat.reduceAdd, Nat.reduceMul, Nat.reduceLeDiff, Nat.le_refl, Int.natCast_zero, Int.toNat_natCast, Int.reduceToNat]
    have z1 := c_iReplayJournal r j (by omega) (by omega) (by omega)
    have z2 := c_sReplayJournal r j (by omega) (by omega) (by omega)
    have z3 := @repJ_ok r j
    have z4 := repJ_len r j
    generalize repJ r j = q at *
    obtain ⟨z, left, five⟩ := q
    dsimp only at z1 z2 z3 z4
    refine sCallT_one z1 ?_
    simp -dsimp -implicitDefEqProofs only [go_sem, ↓reduceIte, Nat.reduceEqDiff, Nat.reduceLT, Nat.reduceAdd, Nat.reduceMul, Nat.reduceLeDiff, Nat.le_refl, Int.natCast_zero, Int.toNat_natCast, Int.reduceToNat]
    refine sCallT_one z2 ?_
    clear z1 z2
    obtain ⟨z4, z5⟩ := z4
    simp -dsimp -implicitDefEqProofs only [go_sem, ↓reduceIte, Nat.reduceEqDiff, Nat.reduceLT, Nat.reduceAdd, Nat.reduceMul, Nat.reduceLeDiff, Nat.le_refl, Int.natCast_zero, Int.toNat_natCast, Int.reduceToNat]
    repeat' first
      | (with_reducible refine And.intro ?_ ?_)
      | (refine sCallT_one (c_likeRegisters z z (by omega) (by omega)) ?_; try simp -dsimp -implicitDefEqProofs only [go_sem, ↓reduceIte, Nat.reduceEqDiff, Nat.reduceLT, Nat.reduceAdd, Nat.reduceMul, Nat.reduceLeDiff, Nat.le_refl, Int.natCast_zero, Int.toNat_natCast, Int.reduceToNat])
      | (refine sCallT_one (c_likeInts by1 by1 (by omega)) ?_; try simp -dsimp -implicitDefEqProofs only [go_sem, ↓reduceIte, Nat.reduceEqDiff, Nat.reduceLT, Nat.reduceAdd, Nat.reduceMul, Nat.reduceLeDiff, Nat.le_refl, Int.natCast_zero, Int.toNat_natCast, Int.reduceToNat])
    all_goals try (first | omega | (refine ⟨?_, ?_⟩ <;> omega) | (exact rfl) | (simp; done) | decide)
    rcases hf : (five == 0) with _ | _
    · refine Br.neg rfl ?_
      simp -dsimp -implicitDefEqProofs only [go_sem, ↓reduceIte, Nat.reduceEqDiff, Nat.reduceLT, Nat.reduceAdd, Nat.reduceMul, Nat.reduceLeDiff, Nat.le_refl, Int.natCast_zero, Int.toNat_natCast, Int.reduceToNat]
      clear z3 hf
      rcases hbad : (bad != 0) with _ | _
      · have hb0 : bad = 0 := by simpa using hbad
        obtain ⟨k0, _, k2⟩ := hok hb0
        have k3 : t.length ≤ x.length := by
          have := congrArg List.length k2
          simp at this; omega
        have ri := hri hb0
        have rs := hrs hb0
        clear hok hri hrs
        subst hb0 k0
        obtain ⟨_, hbl⟩ := hr0
        have hll : (b0 ++ [e]).length = b0.length + 1 := by simp
        have hle := c_likeEvents (b0 ++ [e]) (b0 ++ [e]) (by omega)
        have hl2 := c_likeEvents b0 b0 (by omega)
        have f0 : ((0 : Int) != 0) = false := rfl
        have f1 : ((0 : Int) == 0) = true := rfl
        have g1 : (b0 ++ [e])[b0.length]? = some e := by simp
        have g2 : List.take b0.length (List.map eEv (b0 ++ [e])) = List.map eEv b0 := by rw [List.map_append, List.take_append_of_le_length (by simp), List.take_of_length_le (by simp)]
        have g3 : ((((b0 ++ [e]).length : Nat) : Int) == (b0.length : Int) + 1) = true := by rw [hll]; simp
        generalize b0 ++ [e] = bb at *
        refine Br.neg rfl ?_
        simp -dsimp -implicitDefEqProofs only [go_sem, ↓reduceIte, Nat.reduceEqDiff, Nat.reduceLT, Nat.reduceAdd, Nat.reduceMul, Nat.reduceLeDiff, Nat.le_refl, Int.natCast_zero, Int.toNat_natCast, Int.reduceToNat]
        refine sCallT_one ri ?_
        simp -dsimp -implicitDefEqProofs only [go_sem, ↓reduceIte, Nat.reduceEqDiff, Nat.reduceLT, Nat.reduceAdd, Nat.reduceMul, Nat.reduceLeDiff, Nat.le_refl, Int.natCast_zero, Int.toNat_natCast, Int.reduceToNat]
        refine sCallT_one rs ?_
        simp -dsimp -implicitDefEqProofs only [go_sem, ↓reduceIte, Nat.reduceEqDiff, Nat.reduceLT, Nat.reduceAdd, Nat.reduceMul, Nat.reduceLeDiff, Nat.le_refl, Int.natCast_zero, Int.toNat_natCast, Int.reduceToNat, f0]
        refine sCallT_one hle ?_
        simp -dsimp -implicitDefEqProofs only [go_sem, ↓reduceIte, Nat.reduceEqDiff, Nat.reduceLT, Nat.reduceAdd, Nat.reduceMul, Nat.reduceLeDiff, Nat.le_refl, Int.natCast_zero, Int.toNat_natCast, Int.reduceToNat]
        refine sCallT_one r0 ?_
        simp -dsimp -implicitDefEqProofs only [go_sem, ↓reduceIte, Nat.reduceEqDiff, Nat.reduceLT, Nat.reduceAdd, Nat.reduceMul, Nat.reduceLeDiff, Nat.le_refl, Int.natCast_zero, Int.toNat_natCast, Int.reduceToNat]
        refine Later.draw mixed rfl ?_
        simp -dsimp -implicitDefEqProofs only [go_sem, ↓reduceIte, Nat.reduceEqDiff, Nat.reduceLT, Nat.reduceAdd, Nat.reduceMul, Nat.reduceLeDiff, Nat.le_refl, Int.natCast_zero, Int.toNat_natCast, Int.reduceToNat, f1, g3]
        repeat' (with_reducible refine And.intro ?_ ?_)
        all_goals try (first | omega | (refine ⟨?_, ?_⟩ <;> omega) | (exact rfl) | (simp; done) | decide)
        rw [g2]
        refine sCallX_one hl2 ?_
        simp -dsimp -implicitDefEqProofs only [go_sem, ↓reduceIte, Nat.reduceEqDiff, Nat.reduceLT, Nat.reduceAdd, Nat.reduceMul, Nat.reduceLeDiff, Nat.le_refl, Int.natCast_zero, Int.toNat_natCast, Int.reduceToNat, g1, k2, beq_self_eq_true, Bool.and_self]
        repeat' (with_reducible refine And.intro ?_ ?_)
        all_goals try (first | omega | (refine ⟨?_, ?_⟩ <;> omega) | (exact rfl) | (simp; done) | decide)
        all_goals try (simp -dsimp -implicitDefEqProofs only [go_sem, ↓reduceIte, Nat.reduceEqDiff, Nat.reduceLT, Nat.reduceAdd, Nat.reduceMul, Nat.reduceLeDiff, Nat.le_refl, Int.natCast_zero, Int.toNat_natCast, Int.reduceToNat, g1, k2, beq_self_eq_true, Bool.and_self]; (repeat' (with_reducible refine And.intro ?_ ?_)); all_goals try (first | omega | (refine ⟨?_, ?_⟩ <;> omega) | (exact rfl) | (simp; done) | decide))
      · clear hok hri hrs
        refine Br.pos rfl ?_
        simp -dsimp -implicitDefEqProofs only [go_sem, ↓reduceIte, Nat.reduceEqDiff, Nat.reduceLT, Nat.reduceAdd, Nat.reduceMul, Nat.reduceLeDiff, Nat.le_refl, Int.natCast_zero, Int.toNat_natCast, Int.reduceToNat]
        repeat' (with_reducible refine And.intro ?_ ?_)
        all_goals (first | omega | (refine ⟨?_, ?_⟩ <;> omega) | (exact rfl) | (simp; done) | decide)
    · have z6 := z3 (by simpa using hf)
      refine Br.pos rfl ?_
      simp -dsimp -implicitDefEqProofs only [go_sem, ↓reduceIte, Nat.reduceEqDiff, Nat.reduceLT, Nat.reduceAdd, Nat.reduceMul, Nat.reduceLeDiff, Nat.le_refl, Int.natCast_zero, Int.toNat_natCast, Int.reduceToNat]
      refine sCallT_one (c_iIsRegister z (by omega) (by omega)) ?_
      simp -dsimp -implicitDefEqProofs only [go_sem, ↓reduceIte, Nat.reduceEqDiff, Nat.reduceLT, Nat.reduceAdd, Nat.reduceMul, Nat.reduceLeDiff, Nat.le_refl, Int.natCast_zero, Int.toNat_natCast, Int.reduceToNat, z6]
      clear z3 hf
      rcases hbad : (bad != 0) with _ | _
      · have hb0 : bad = 0 := by simpa using hbad
        obtain ⟨k0, _, k2⟩ := hok hb0
        have k3 : t.length ≤ x.length := by
          have := congrArg List.length k2
          simp at this; omega
        have ri := hri hb0
        have rs := hrs hb0
        clear hok hri hrs
        subst hb0 k0
        obtain ⟨_, hbl⟩ := hr0
        have hll : (b0 ++ [e]).length = b0.length + 1 := by simp
        have hle := c_likeEvents (b0 ++ [e]) (b0 ++ [e]) (by omega)
        have hl2 := c_likeEvents b0 b0 (by omega)
        have f0 : ((0 : Int) != 0) = false := rfl
        have f1 : ((0 : Int) == 0) = true := rfl
        have g1 : (b0 ++ [e])[b0.length]? = some e := by simp
        have g2 : List.take b0.length (List.map eEv (b0 ++ [e])) = List.map eEv b0 := by rw [List.map_append, List.take_append_of_le_length (by simp), List.take_of_length_le (by simp)]
        have g3 : ((((b0 ++ [e]).length : Nat) : Int) == (b0.length : Int) + 1) = true := by rw [hll]; simp
        generalize b0 ++ [e] = bb at *
        refine Br.neg rfl ?_
        simp -dsimp -implicitDefEqProofs only [go_sem, ↓reduceIte, Nat.reduceEqDiff, Nat.reduceLT, Nat.reduceAdd, Nat.reduceMul, Nat.reduceLeDiff, Nat.le_refl, Int.natCast_zero, Int.toNat_natCast, Int.reduceToNat]
        refine sCallT_one ri ?_
        simp -dsimp -implicitDefEqProofs only [go_sem, ↓reduceIte, Nat.reduceEqDiff, Nat.reduceLT, Nat.reduceAdd, Nat.reduceMul, Nat.reduceLeDiff, Nat.le_refl, Int.natCast_zero, Int.toNat_natCast, Int.reduceToNat]
        refine sCallT_one rs ?_
        simp -dsimp -implicitDefEqProofs only [go_sem, ↓reduceIte, Nat.reduceEqDiff, Nat.reduceLT, Nat.reduceAdd, Nat.reduceMul, Nat.reduceLeDiff, Nat.le_refl, Int.natCast_zero, Int.toNat_natCast, Int.reduceToNat, f0]
        refine sCallT_one hle ?_
        simp -dsimp -implicitDefEqProofs only [go_sem, ↓reduceIte, Nat.reduceEqDiff, Nat.reduceLT, Nat.reduceAdd, Nat.reduceMul, Nat.reduceLeDiff, Nat.le_refl, Int.natCast_zero, Int.toNat_natCast, Int.reduceToNat]
        refine sCallT_one r0 ?_
        simp -dsimp -implicitDefEqProofs only [go_sem, ↓reduceIte, Nat.reduceEqDiff, Nat.reduceLT, Nat.reduceAdd, Nat.reduceMul, Nat.reduceLeDiff, Nat.le_refl, Int.natCast_zero, Int.toNat_natCast, Int.reduceToNat]
        refine Later.draw mixed rfl ?_
        simp -dsimp -implicitDefEqProofs only [go_sem, ↓reduceIte, Nat.reduceEqDiff, Nat.reduceLT, Nat.reduceAdd, Nat.reduceMul, Nat.reduceLeDiff, Nat.le_refl, Int.natCast_zero, Int.toNat_natCast, Int.reduceToNat, f1, g3]
        repeat' (with_reducible refine And.intro ?_ ?_)
        all_goals try (first | omega | (refine ⟨?_, ?_⟩ <;> omega) | (exact rfl) | (simp; done) | decide)
        rw [g2]
        refine sCallX_one hl2 ?_
        simp -dsimp -implicitDefEqProofs only [go_sem, ↓reduceIte, Nat.reduceEqDiff, Nat.reduceLT, Nat.reduceAdd, Nat.reduceMul, Nat.reduceLeDiff, Nat.le_refl, Int.natCast_zero, Int.toNat_natCast, Int.reduceToNat, g1, k2, beq_self_eq_true, Bool.and_self]
        repeat' (with_reducible refine And.intro ?_ ?_)
        all_goals try (first | omega | (refine ⟨?_, ?_⟩ <;> omega) | (exact rfl) | (simp; done) | decide)
        all_goals try (simp -dsimp -implicitDefEqProofs only [go_sem, ↓reduceIte, Nat.reduceEqDiff, Nat.reduceLT, Nat.reduceAdd, Nat.reduceMul, Nat.reduceLeDiff, Nat.le_refl, Int.natCast_zero, Int.toNat_natCast, Int.reduceToNat, g1, k2, beq_self_eq_true, Bool.and_self]; (repeat' (with_reducible refine And.intro ?_ ?_)); all_goals try (first | omega | (refine ⟨?_, ?_⟩ <;> omega) | (exact rfl) | (simp; done) | decide))
      · clear hok hri hrs
        refine Br.pos rfl ?_
        simp -dsimp -implicitDefEqProofs only [go_sem, ↓reduceIte, Nat.reduceEqDiff, Nat.reduceLT, Nat.reduceAdd, Nat.reduceMul, Nat.reduceLeDiff, Nat.le_refl, Int.natCast_zero, Int.toNat_natCast, Int.reduceToNat]
        repeat' (with_reducible refine And.intro ?_ ?_)
        all_goals (first | omega | (refine ⟨?_, ?_⟩ <;> omega) | (exact rfl) | (simp; done) | decide)
  · simp -dsimp -implicitDefEqProofs only [go_sem, ↓reduceIte, Nat.reduceEqDiff, Nat.reduceLT, Nat.reduceAdd, Nat.reduceMul, Nat.reduceLeDiff, Nat.le_refl, Int.natCast_zero, Int.toNat_natCast, Int.reduceToNat, hb]
    repeat' (with_reducible refine And.intro ?_ ?_)
    all_goals (first | omega | (refine ⟨?_, ?_⟩ <;> omega) | (exact rfl) | (simp; done) | decide)
end Go.Vc
