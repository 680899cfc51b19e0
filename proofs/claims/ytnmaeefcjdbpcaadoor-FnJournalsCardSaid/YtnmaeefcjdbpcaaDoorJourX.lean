/-
  Contracts: what is told of a journal, by the program and by the reference.
-/
import Derived.Test.YtnmaeefcjdbpcaaDoorJourS3
set_option linter.unusedVariables false
set_option linter.unusedSimpArgs false
set_option linter.unnecessarySimpa false
namespace Go.Vc
open Go.Proofs Go.Lib
set_option maxRecDepth 100000
theorem readJ_facts (t : List UInt8) : t.length = (jT 1 0 (readJ t).1).length + (readJ t).2.1.length ∧ (readJ t).2.2 = jC 1 0 (readJ t).1 ∧ (∀ e ∈ (readJ t).1, isJ e = true) ∧ (readJ t).1.length ≤ 60 := by
  obtain ⟨h, h2⟩ := readJ_inv t
  refine ⟨?_, h.ch, h.ok, h2⟩
  conv => lhs; rw [h.txt]
  rw [List.length_append]
def rdJ (t : List UInt8) : List EvM × Int := if t.length > 1000 then ([], 3) else if (readJ t).2.1.length > 0 then ([], 6) else ((readJ t).1, 0)
theorem rdJ_facts (t : List UInt8) : (∀ e ∈ (rdJ t).1, isJ e = true) ∧ (rdJ t).1.length ≤ 60 := by
  have := readJ_facts t
  unfold rdJ
  split
  · simp
  · split
    · simp
    · exact ⟨this.2.2.1, this.2.2.2⟩
theorem c_iReadJournal (t : List UInt8) (h : t.length ≤ 1048576) : Fn Tryd.prog 33 [eS t] true (· = .tup [eEvs (rdJ t).1, eI (rdJ t).2]) := by
  refine Fn.of_vcN 21 [.tmp 2, .tmp 3] Tryd.func33 rfl rfl rfl rfl rfl (of_decide_eq_true rfl) ?_
  unfold rdJ
  simp -dsimp -implicitDefEqProofs only [go_sem, ↓reduceIte, Nat.reduceEqDiff, Nat.reduceLT, Nat.reduceAdd, Nat.reduceMul, Nat.reduceLeDiff, Nat.le_refl, Int.natCast_zero, Int.toNat_natCast, Int.reduceToNat]
  rcases hk : decide ((t.length : Int) > 1000) with _ | _
  · have hk2 := of_decide_eq_false hk
    rw [if_neg (by omega)]
    have hf := readJ_facts t
    have hc := c_readJournal t (by omega)
    generalize readJ t = a at *
    simp -dsimp -implicitDefEqProofs only [go_sem, ↓reduceIte, Nat.reduceEqDiff, Nat.reduceLT, Nat.reduceAdd, Nat.reduceMul, Nat.reduceLeDiff, Nat.le_refl, Int.natCast_zero, Int.toNat_natCast, Int.reduceToNat, hk]
    refine sCallT_one hc ?_
    rcases hr : decide (((t.length - a.2.1.length : Nat) : Int) < t.length) with _ | _
    · have := of_decide_eq_false hr
      rw [if_neg (by omega)]
      simp -dsimp -implicitDefEqProofs only [go_sem, ↓reduceIte, Nat.reduceEqDiff, Nat.reduceLT, Nat.reduceAdd, Nat.reduceMul, Nat.reduceLeDiff, Nat.le_refl, Int.natCast_zero, Int.toNat_natCast, Int.reduceToNat, hr]
      repeat' (with_reducible refine And.intro ?_ ?_)
      all_goals (first | omega | (refine ⟨?_, ?_⟩ <;> omega) | (exact rfl) | (simp; done) | trace_state)
    · have := of_decide_eq_true hr
      rw [if_pos (by omega)]
      simp -dsimp -implicitDefEqProofs only [go_sem, ↓reduceIte, Nat.reduceEqDiff, Nat.reduceLT, Nat.reduceAdd, Nat.reduceMul, Nat.reduceLeDiff, Nat.le_refl, Int.natCast_zero, Int.toNat_natCast, Int.reduceToNat, hr]
      repeat' (with_reducible refine And.intro ?_ ?_)
      all_goals (first | omega | (refine ⟨?_, ?_⟩ <;> omega) | (exact rfl) | (simp; done) | trace_state)
  · have hk2 := of_decide_eq_true hk
    rw [if_pos (by omega)]
    simp -dsimp -implicitDefEqProofs only [go_sem, ↓reduceIte, Nat.reduceEqDiff, Nat.reduceLT, Nat.reduceAdd, Nat.reduceMul, Nat.reduceLeDiff, Nat.le_refl, Int.natCast_zero, Int.toNat_natCast, Int.reduceToNat, hk]
    repeat' (with_reducible refine And.intro ?_ ?_)
    all_goals (first | omega | (refine ⟨?_, ?_⟩ <;> omega) | (exact rfl) | (simp; done) | trace_state)
theorem c_sReadJournal (t : List UInt8) (h : t.length ≤ 1048576) : Fn Tryd.prog 32 [eS t] true (· = .tup [eEvs (rdJ t).1, eI (rdJ t).2]) := by
  refine Fn.of_vcN 19 [.tmp 2, .tmp 3] Tryd.func32 rfl rfl rfl rfl rfl (of_decide_eq_true rfl) ?_
  unfold rdJ
  simp -dsimp -implicitDefEqProofs only [go_sem, ↓reduceIte, Nat.reduceEqDiff, Nat.reduceLT, Nat.reduceAdd, Nat.reduceMul, Nat.reduceLeDiff, Nat.le_refl, Int.natCast_zero, Int.toNat_natCast, Int.reduceToNat]
  rcases hk : decide ((t.length : Int) > 1000) with _ | _
  · have hk2 := of_decide_eq_false hk
    rw [if_neg (by omega)]
    have hf := readJ_facts t
    have hc := c_l31Recover t (by omega)
    generalize readJ t = a at *
    simp -dsimp -implicitDefEqProofs only [go_sem, ↓reduceIte, Nat.reduceEqDiff, Nat.reduceLT, Nat.reduceAdd, Nat.reduceMul, Nat.reduceLeDiff, Nat.le_refl, Int.natCast_zero, Int.toNat_natCast, Int.reduceToNat, hk]
    refine sCallT_one hc ?_
    rcases hr : (((t.length - a.2.1.length : Nat) : Int) != t.length) with _ | _
    · have hr2 : ((t.length - a.2.1.length : Nat) : Int) = t.length := by simpa using hr
      rw [if_neg (by omega)]
      simp -dsimp -implicitDefEqProofs only [go_sem, ↓reduceIte, Nat.reduceEqDiff, Nat.reduceLT, Nat.reduceAdd, Nat.reduceMul, Nat.reduceLeDiff, Nat.le_refl, Int.natCast_zero, Int.toNat_natCast, Int.reduceToNat, hr]
      repeat' (with_reducible refine And.intro ?_ ?_)
      all_goals (first | omega | (refine ⟨?_, ?_⟩ <;> omega) | (exact rfl) | (simp; done) | trace_state)
    · have hr2 : ¬ ((t.length - a.2.1.length : Nat) : Int) = t.length := by simpa using hr
      rw [if_pos (by omega)]
      simp -dsimp -implicitDefEqProofs only [go_sem, ↓reduceIte, Nat.reduceEqDiff, Nat.reduceLT, Nat.reduceAdd, Nat.reduceMul, Nat.reduceLeDiff, Nat.le_refl, Int.natCast_zero, Int.toNat_natCast, Int.reduceToNat, hr]
      repeat' (with_reducible refine And.intro ?_ ?_)
      all_goals (first | omega | (refine ⟨?_, ?_⟩ <;> omega) | (exact rfl) | (simp; done) | trace_state)
  · have hk2 := of_decide_eq_true hk
    rw [if_pos (by omega)]
    simp -dsimp -implicitDefEqProofs only [go_sem, ↓reduceIte, Nat.reduceEqDiff, Nat.reduceLT, Nat.reduceAdd, Nat.reduceMul, Nat.reduceLeDiff, Nat.le_refl, Int.natCast_zero, Int.toNat_natCast, Int.reduceToNat, hk]
    repeat' (with_reducible refine And.intro ?_ ?_)
    all_goals (first | omega | (refine ⟨?_, ?_⟩ <;> omega) | (exact rfl) | (simp; done) | trace_state)
def recov (t : List UInt8) : List EvM × Int × Int := if t.length > 1000 then ([], 0, 3) else ((readJ t).1, ((t.length - (readJ t).2.1.length : Nat) : Int), 0)
theorem c_iRecoverJournal (t : List UInt8) (h : t.length ≤ 1048576) : Fn Tryd.prog 26 [eS t] true (· = .tup [eEvs (recov t).1, eI (recov t).2.1, eI (recov t).2.2]) := by
  refine Fn.of_vcN 19 [.tmp 2, .tmp 3, .tmp 4] Tryd.func26 rfl rfl rfl rfl rfl (of_decide_eq_true rfl) ?_
  unfold recov
  simp -dsimp -implicitDefEqProofs only [go_sem, ↓reduceIte, Nat.reduceEqDiff, Nat.reduceLT, Nat.reduceAdd, Nat.reduceMul, Nat.reduceLeDiff, Nat.le_refl, Int.natCast_zero, Int.toNat_natCast, Int.reduceToNat]
  rcases hk : decide ((t.length : Int) > 1000) with _ | _
  · have hk2 := of_decide_eq_false hk
    rw [if_neg (by omega)]
    simp -dsimp -implicitDefEqProofs only [go_sem, ↓reduceIte, Nat.reduceEqDiff, Nat.reduceLT, Nat.reduceAdd, Nat.reduceMul, Nat.reduceLeDiff, Nat.le_refl, Int.natCast_zero, Int.toNat_natCast, Int.reduceToNat, hk]
    refine sCallT_one (c_readJournal t (by omega)) ?_
    generalize readJ t = a at *
    simp -dsimp -implicitDefEqProofs only [go_sem, ↓reduceIte, Nat.reduceEqDiff, Nat.reduceLT, Nat.reduceAdd, Nat.reduceMul, Nat.reduceLeDiff, Nat.le_refl, Int.natCast_zero, Int.toNat_natCast, Int.reduceToNat]
    repeat' (with_reducible refine And.intro ?_ ?_)
    all_goals (first | omega | (refine ⟨?_, ?_⟩ <;> omega) | (exact rfl) | (simp; done) | trace_state)
  · have hk2 := of_decide_eq_true hk
    rw [if_pos (by omega)]
    simp -dsimp -implicitDefEqProofs only [go_sem, ↓reduceIte, Nat.reduceEqDiff, Nat.reduceLT, Nat.reduceAdd, Nat.reduceMul, Nat.reduceLeDiff, Nat.le_refl, Int.natCast_zero, Int.toNat_natCast, Int.reduceToNat, hk]
    repeat' (with_reducible refine And.intro ?_ ?_)
    all_goals (first | omega | (refine ⟨?_, ?_⟩ <;> omega) | (exact rfl) | (simp; done) | trace_state)
theorem c_sRecoverJournal (t : List UInt8) (h : t.length ≤ 1048576) : Fn Tryd.prog 25 [eS t] true (· = .tup [eEvs (recov t).1, eI (recov t).2.1, eI (recov t).2.2]) := by
  refine Fn.of_vcN 17 [.tmp 2, .tmp 3, .tmp 4] Tryd.func25 rfl rfl rfl rfl rfl (of_decide_eq_true rfl) ?_
  unfold recov
  simp -dsimp -implicitDefEqProofs only [go_sem, ↓reduceIte, Nat.reduceEqDiff, Nat.reduceLT, Nat.reduceAdd, Nat.reduceMul, Nat.reduceLeDiff, Nat.le_refl, Int.natCast_zero, Int.toNat_natCast, Int.reduceToNat]
  rcases hk : decide ((t.length : Int) > 1000) with _ | _
  · have hk2 := of_decide_eq_false hk
    rw [if_neg (by omega)]
    simp -dsimp -implicitDefEqProofs only [go_sem, ↓reduceIte, Nat.reduceEqDiff, Nat.reduceLT, Nat.reduceAdd, Nat.reduceMul, Nat.reduceLeDiff, Nat.le_refl, Int.natCast_zero, Int.toNat_natCast, Int.reduceToNat, hk]
    refine sCallT_one (c_l31Recover t (by omega)) ?_
    generalize readJ t = a at *
    simp -dsimp -implicitDefEqProofs only [go_sem, ↓reduceIte, Nat.reduceEqDiff, Nat.reduceLT, Nat.reduceAdd, Nat.reduceMul, Nat.reduceLeDiff, Nat.le_refl, Int.natCast_zero, Int.toNat_natCast, Int.reduceToNat]
    repeat' (with_reducible refine And.intro ?_ ?_)
    all_goals (first | omega | (refine ⟨?_, ?_⟩ <;> omega) | (exact rfl) | (simp; done) | trace_state)
  · have hk2 := of_decide_eq_true hk
    rw [if_pos (by omega)]
    simp -dsimp -implicitDefEqProofs only [go_sem, ↓reduceIte, Nat.reduceEqDiff, Nat.reduceLT, Nat.reduceAdd, Nat.reduceMul, Nat.reduceLeDiff, Nat.le_refl, Int.natCast_zero, Int.toNat_natCast, Int.reduceToNat, hk]
    repeat' (with_reducible refine And.intro ?_ ?_)
    all_goals (first | omega | (refine ⟨?_, ?_⟩ <;> omega) | (exact rfl) | (simp; done) | trace_state)
def appE (t : List UInt8) (e : EvM) : List UInt8 × Int := if (rdJ t).2 = 0 then jText ((rdJ t).1 ++ [e]) else ([], (rdJ t).2)
theorem c_iAppendEvent (t : List UInt8) (e : EvM) (h : t.length ≤ 1048576) : Fn Tryd.prog 31 [eS t, eEv e] true (· = .tup [eS (appE t e).1, eI (appE t e).2]) := by
  refine Fn.of_vcN 23 [.tmp 4, .tmp 5] Tryd.func31 rfl rfl rfl rfl rfl (of_decide_eq_true rfl) ?_
  unfold appE
  have hf := rdJ_facts t
  have hc := c_iReadJournal t h
  generalize rdJ t = a at *
  obtain ⟨es, code⟩ := a
  dsimp only at hf hc ⊢
  simp -dsimp -implicitDefEqProofs only [go_sem, ↓reduceIte, Nat.reduceEqDiff, Nat.reduceLT, Nat.reduceAdd, Nat.reduceMul, Nat.reduceLeDiff, Nat.le_refl, Int.natCast_zero, Int.toNat_natCast, Int.reduceToNat]
  refine sCallT_one hc ?_
  rcases hk : (code != 0) with _ | _
  · have h0 : code = 0 := by simpa using hk
    rw [if_pos h0]
    have htk : List.take (es.length + 1) (List.map eEv es ++ [AV.agg [eI e.kind, eI e.tag, eI e.person, eI e.who]]) = List.map eEv (es ++ [e]) := by
      rw [List.take_of_length_le (by simp)]; simp
    have hj := c_iJournalText (es ++ [e]) (by simp; omega)
    generalize jText (es ++ [e]) = q at *
    simp -dsimp -implicitDefEqProofs only [go_sem, ↓reduceIte, Nat.reduceEqDiff, Nat.reduceLT, Nat.reduceAdd, Nat.reduceMul, Nat.reduceLeDiff, Nat.le_refl, Int.natCast_zero, Int.toNat_natCast, Int.reduceToNat, hk]
    repeat' (with_reducible refine And.intro ?_ ?_)
    all_goals try (first | omega | (refine ⟨?_, ?_⟩ <;> omega) | (simp; done))
    simp only [htk]
    refine sCallT_one hj ?_
    simp -dsimp -implicitDefEqProofs only [go_sem, ↓reduceIte, Nat.reduceEqDiff, Nat.reduceLT, Nat.reduceAdd, Nat.reduceMul, Nat.reduceLeDiff, Nat.le_refl, Int.natCast_zero, Int.toNat_natCast, Int.reduceToNat]
    repeat' (with_reducible refine And.intro ?_ ?_)
    all_goals (first | omega | (refine ⟨?_, ?_⟩ <;> omega) | (exact rfl) | (simp; done) | trace_state)
  · have h0 : ¬ code = 0 := by simpa using hk
    rw [if_neg h0]
    simp -dsimp -implicitDefEqProofs only [go_sem, ↓reduceIte, Nat.reduceEqDiff, Nat.reduceLT, Nat.reduceAdd, Nat.reduceMul, Nat.reduceLeDiff, Nat.le_refl, Int.natCast_zero, Int.toNat_natCast, Int.reduceToNat, hk]
    repeat' (with_reducible refine And.intro ?_ ?_)
    all_goals (first | omega | (refine ⟨?_, ?_⟩ <;> omega) | (exact rfl) | (simp; done) | trace_state)
theorem jText_snoc {es : List EvM} {e : EvM} (h : ∀ x ∈ es, isJ x = true) : jText (es ++ [e]) = if isJ e = true then jWrite (es ++ [e]) else ([], 2) := by
  unfold jText jWrite
  have hall : (es ++ [e]).all isJ = isJ e := by
    rw [List.all_append, List.all_eq_true.2 h]; simp
  rw [hall]
theorem c_sAppendEvent (t : List UInt8) (e : EvM) (h : t.length ≤ 1048576) : Fn Tryd.prog 29 [eS t, eEv e] true (· = .tup [eS (appE t e).1, eI (appE t e).2]) := by
  refine Fn.of_vcN 32 [.tmp 4, .tmp 5] Tryd.func29 rfl rfl rfl rfl rfl (of_decide_eq_true rfl) ?_
  unfold appE
  have hf := rdJ_facts t
  have hc := c_sReadJournal t h
  generalize rdJ t = a at *
  obtain ⟨es, code⟩ := a
  dsimp only at hf hc ⊢
  rw [jText_snoc hf.1]
  simp -dsimp -implicitDefEqProofs only [go_sem, ↓reduceIte, Nat.reduceEqDiff, Nat.reduceLT, Nat.reduceAdd, Nat.reduceMul, Nat.reduceLeDiff, Nat.le_refl, Int.natCast_zero, Int.toNat_natCast, Int.reduceToNat]
  refine sCallT_one hc ?_
  rcases hk : (code == 0) with _ | _
  · have h0 : ¬ code = 0 := by simpa using hk
    have hk2 : (code != 0) = true := by simpa using hk
    rw [if_neg h0]
    simp -dsimp -implicitDefEqProofs only [go_sem, ↓reduceIte, Nat.reduceEqDiff, Nat.reduceLT, Nat.reduceAdd, Nat.reduceMul, Nat.reduceLeDiff, Nat.le_refl, Int.natCast_zero, Int.toNat_natCast, Int.reduceToNat, hk, hk2]
    repeat' (with_reducible refine And.intro ?_ ?_)
    all_goals (first | omega | (refine ⟨?_, ?_⟩ <;> omega) | (exact rfl) | (simp; done) | trace_state)
  · have h0 : code = 0 := by simpa using hk
    subst h0
    rw [if_pos rfl]
    have z1 : ((0 : Int) == 0) = true := rfl
    have z2 : ((0 : Int) != 0) = false := rfl
    have z3 : ((2 : Int) != 0) = true := rfl
    have hce := c_l31Event e
    rcases hj : isJ e with _ | _
    · rw [if_neg (by decide)]
      simp -dsimp -implicitDefEqProofs only [go_sem, ↓reduceIte, Nat.reduceEqDiff, Nat.reduceLT, Nat.reduceAdd, Nat.reduceMul, Nat.reduceLeDiff, Nat.le_refl, Int.natCast_zero, Int.toNat_natCast, Int.reduceToNat, z1]
      refine sCallT_one hce ?_
      simp -dsimp -implicitDefEqProofs only [go_sem, ↓reduceIte, Nat.reduceEqDiff, Nat.reduceLT, Nat.reduceAdd, Nat.reduceMul, Nat.reduceLeDiff, Nat.le_refl, Int.natCast_zero, Int.toNat_natCast, Int.reduceToNat, hj, z3]
      repeat' (with_reducible refine And.intro ?_ ?_)
      all_goals (first | omega | (refine ⟨?_, ?_⟩ <;> omega) | (exact rfl) | (simp; done) | trace_state)
    · rw [if_pos rfl]
      have htk : List.take (es.length + 1) (List.map eEv es ++ [AV.agg [eI e.kind, eI e.tag, eI e.person, eI e.who]]) = List.map eEv (es ++ [e]) := by
        rw [List.take_of_length_le (by simp)]; simp
      have hw := c_l31Write (es ++ [e]) (by simp; omega) (by
        intro x hx
        rcases List.mem_append.1 hx with hx | hx
        · exact isJ_D (hf.1 x hx)
        · rw [List.mem_singleton] at hx; rw [hx]; exact isJ_D hj)
      generalize jWrite (es ++ [e]) = q at *
      simp -dsimp -implicitDefEqProofs only [go_sem, ↓reduceIte, Nat.reduceEqDiff, Nat.reduceLT, Nat.reduceAdd, Nat.reduceMul, Nat.reduceLeDiff, Nat.le_refl, Int.natCast_zero, Int.toNat_natCast, Int.reduceToNat, z1]
      refine sCallT_one hce ?_
      simp -dsimp -implicitDefEqProofs only [go_sem, ↓reduceIte, Nat.reduceEqDiff, Nat.reduceLT, Nat.reduceAdd, Nat.reduceMul, Nat.reduceLeDiff, Nat.le_refl, Int.natCast_zero, Int.toNat_natCast, Int.reduceToNat, hj, z2]
      refine Later.draw mixed rfl ?_
      simp -dsimp -implicitDefEqProofs only [go_sem, ↓reduceIte, Nat.reduceEqDiff, Nat.reduceLT, Nat.reduceAdd, Nat.reduceMul, Nat.reduceLeDiff, Nat.le_refl, Int.natCast_zero, Int.toNat_natCast, Int.reduceToNat]
      repeat' (with_reducible refine And.intro ?_ ?_)
      all_goals try (first | omega | (refine ⟨?_, ?_⟩ <;> omega) | (simp; done) | (exact rfl))
      simp only [htk]
      refine sCallX_one hw ?_
      simp -dsimp -implicitDefEqProofs only [go_sem, ↓reduceIte, Nat.reduceEqDiff, Nat.reduceLT, Nat.reduceAdd, Nat.reduceMul, Nat.reduceLeDiff, Nat.le_refl, Int.natCast_zero, Int.toNat_natCast, Int.reduceToNat]
      repeat' (with_reducible refine And.intro ?_ ?_)
      all_goals (first | omega | (refine ⟨?_, ?_⟩ <;> omega) | (exact rfl) | (simp; done) | trace_state)
def lastC (t : List UInt8) : Int × Int := if (rdJ t).2 = 0 then (jC 1 0 (rdJ t).1, 0) else (0, (rdJ t).2)
theorem c_iLastChain (t : List UInt8) (h : t.length ≤ 1048576) : Fn Tryd.prog 19 [eS t] true (· = .tup [eI (lastC t).1, eI (lastC t).2]) := by
  refine Fn.of_vcN 24 [.tmp 2, .tmp 3] Tryd.func19 rfl rfl rfl rfl rfl (of_decide_eq_true rfl) ?_
  unfold lastC
  have hc := c_iReadJournal t h
  simp -dsimp -implicitDefEqProofs only [go_sem, ↓reduceIte, Nat.reduceEqDiff, Nat.reduceLT, Nat.reduceAdd, Nat.reduceMul, Nat.reduceLeDiff, Nat.le_refl, Int.natCast_zero, Int.toNat_natCast, Int.reduceToNat]
  refine sCallT_one hc ?_
  rcases hk : ((rdJ t).2 != 0) with _ | _
  · have h0 : (rdJ t).2 = 0 := by simpa using hk
    have ht : t.length ≤ 1000 ∧ (rdJ t).1 = (readJ t).1 := by
      unfold rdJ at h0 ⊢
      split at h0
      · cases h0
      · rename_i h1
        split at h0
        · cases h0
        · rename_i h2
          rw [if_neg h1, if_neg h2]; exact ⟨by omega, rfl⟩
    have hr := c_readJournal t (by omega)
    have hf := readJ_facts t
    rw [if_pos h0, ht.2, ← hf.2.1]
    generalize readJ t = a at *
    generalize rdJ t = b at *
    simp -dsimp -implicitDefEqProofs only [go_sem, ↓reduceIte, Nat.reduceEqDiff, Nat.reduceLT, Nat.reduceAdd, Nat.reduceMul, Nat.reduceLeDiff, Nat.le_refl, Int.natCast_zero, Int.toNat_natCast, Int.reduceToNat, hk]
    refine sCallT_one hr ?_
    simp -dsimp -implicitDefEqProofs only [go_sem, ↓reduceIte, Nat.reduceEqDiff, Nat.reduceLT, Nat.reduceAdd, Nat.reduceMul, Nat.reduceLeDiff, Nat.le_refl, Int.natCast_zero, Int.toNat_natCast, Int.reduceToNat]
    repeat' (with_reducible refine And.intro ?_ ?_)
    all_goals (first | omega | (refine ⟨?_, ?_⟩ <;> omega) | (exact rfl) | (simp; done) | trace_state)
  · have h0 : ¬ (rdJ t).2 = 0 := by simpa using hk
    rw [if_neg h0]
    generalize rdJ t = b at *
    simp -dsimp -implicitDefEqProofs only [go_sem, ↓reduceIte, Nat.reduceEqDiff, Nat.reduceLT, Nat.reduceAdd, Nat.reduceMul, Nat.reduceLeDiff, Nat.le_refl, Int.natCast_zero, Int.toNat_natCast, Int.reduceToNat, hk]
    repeat' (with_reducible refine And.intro ?_ ?_)
    all_goals (first | omega | (refine ⟨?_, ?_⟩ <;> omega) | (exact rfl) | (simp; done) | trace_state)
theorem c_sLastChain (t : List UInt8) (h : t.length ≤ 1048576) : Fn Tryd.prog 18 [eS t] true (· = .tup [eI (lastC t).1, eI (lastC t).2]) := by
  refine Fn.of_vcN 31 [.tmp 2, .tmp 3] Tryd.func18 rfl rfl rfl rfl rfl (of_decide_eq_true rfl) ?_
  unfold lastC
  have hf := rdJ_facts t
  have hc := c_sReadJournal t h
  generalize rdJ t = a at *
  obtain ⟨es, code⟩ := a
  dsimp only at hf hc ⊢
  simp -dsimp -implicitDefEqProofs only [go_sem, ↓reduceIte, Nat.reduceEqDiff, Nat.reduceLT, Nat.reduceAdd, Nat.reduceMul, Nat.reduceLeDiff, Nat.le_refl, Int.natCast_zero, Int.toNat_natCast, Int.reduceToNat]
  refine sCallT_one hc ?_
  rcases hk : (code != 0) with _ | _
  · have h0 : code = 0 := by simpa using hk
    rw [if_pos h0]
    simp -dsimp -implicitDefEqProofs only [go_sem, ↓reduceIte, Nat.reduceEqDiff, Nat.reduceLT, Nat.reduceAdd, Nat.reduceMul, Nat.reduceLeDiff, Nat.le_refl, Int.natCast_zero, Int.toNat_natCast, Int.reduceToNat, hk]
    refine Later.up [4] [18, 28, 29] [] es.length (fun _ => True) (fun i => [(6, eI (jC 1 0 (es.take i))), (7, eI i)]) (fun _ => []) trivial ?_ rfl (fun i hi _ => ?_) (fun _ => ?_)
    · simp -dsimp -implicitDefEqProofs only [go_sem, ↓reduceIte, Nat.reduceEqDiff, Nat.reduceLT, Nat.reduceAdd, Nat.reduceMul, Nat.reduceLeDiff, Nat.le_refl, Int.natCast_zero, Int.toNat_natCast, Int.reduceToNat]
      exact rfl
    · have gi := get_some hi
      have hD := isJ_D (hf.1 es[i] (List.getElem_mem hi))
      have h2 := jC_in (es.take i) 1 0 (by omega)
      rw [jC_take hi]
      generalize es[i] = e at *
      generalize jC 1 0 (es.take i) = C at *
      have hhl := jHead_len (k := i) (by omega) hD.e64
      have hcH := c_l31Head i e (by omega) hD
      have hcC := c_l31Chain C (jHead i e) h2 (by omega)
      generalize jHead i e = w at *
      simp -dsimp -implicitDefEqProofs only [pick_nil, pick_cons, look_nil, look_cons, dropB_nil, dropB_cons, inD_nil, inD_cons, inE_nil, inE_cons, or_t_l, or_f_l, Nat.reduceBEq, Nat.reduceDiv, Nat.reduceAdd, beq_self_eq_true, Bool.false_eq_true, Bool.or_false, ↓reduceIte, Nat.reduceEqDiff, List.cons_append, List.nil_append]
      simp -dsimp -implicitDefEqProofs only [go_sem, ↓reduceIte, Nat.reduceEqDiff, Nat.reduceLT, Nat.reduceAdd, Nat.reduceMul, Nat.reduceLeDiff, Nat.le_refl, Int.natCast_zero, Int.toNat_natCast, Int.reduceToNat, lt_len hi, gi]
      repeat' (with_reducible refine And.intro ?_ ?_)
      all_goals try (first | omega | (refine ⟨?_, ?_⟩ <;> omega))
      refine sCallT_one hcH ?_
      simp -dsimp -implicitDefEqProofs only [go_sem, ↓reduceIte, Nat.reduceEqDiff, Nat.reduceLT, Nat.reduceAdd, Nat.reduceMul, Nat.reduceLeDiff, Nat.le_refl, Int.natCast_zero, Int.toNat_natCast, Int.reduceToNat]
      refine sCallT_one hcC ?_
      simp -dsimp -implicitDefEqProofs only [go_sem, ↓reduceIte, Nat.reduceEqDiff, Nat.reduceLT, Nat.reduceAdd, Nat.reduceMul, Nat.reduceLeDiff, Nat.le_refl, Int.natCast_zero, Int.toNat_natCast, Int.reduceToNat]
      repeat' (with_reducible refine And.intro ?_ ?_)
      all_goals (first | omega | (refine ⟨?_, ?_⟩ <;> omega) | (exact rfl) | (simp; done) | trace_state)
    · rw [List.take_length]
      simp -dsimp -implicitDefEqProofs only [pick_nil, pick_cons, look_nil, look_cons, dropB_nil, dropB_cons, inD_nil, inD_cons, inE_nil, inE_cons, or_t_l, or_f_l, Nat.reduceBEq, Nat.reduceDiv, Nat.reduceAdd, beq_self_eq_true, Bool.false_eq_true, Bool.or_false, ↓reduceIte, Nat.reduceEqDiff, List.cons_append, List.nil_append]
      simp -dsimp -implicitDefEqProofs only [go_sem, ↓reduceIte, Nat.reduceEqDiff, Nat.reduceLT, Nat.reduceAdd, Nat.reduceMul, Nat.reduceLeDiff, Nat.le_refl, Int.natCast_zero, Int.toNat_natCast, Int.reduceToNat, nlt_len]
  · have h0 : ¬ code = 0 := by simpa using hk
    rw [if_neg h0]
    simp -dsimp -implicitDefEqProofs only [go_sem, ↓reduceIte, Nat.reduceEqDiff, Nat.reduceLT, Nat.reduceAdd, Nat.reduceMul, Nat.reduceLeDiff, Nat.le_refl, Int.natCast_zero, Int.toNat_natCast, Int.reduceToNat, hk]
    repeat' (with_reducible refine And.intro ?_ ?_)
    all_goals (first | omega | (refine ⟨?_, ?_⟩ <;> omega) | (exact rfl) | (simp; done) | trace_state)
def byP (es : List EvM) (p : Int) (i : Nat) : Bool := match es[i]? with | some e => e.who == p | none => false
def evBy (t : List UInt8) (p : Int) : List Int × Int := if (rdJ t).2 = 0 then (flt (byP (rdJ t).1 p) (rdJ t).1.length, 0) else ([], (rdJ t).2)
theorem byP_get {es : List EvM} {p : Int} {i : Nat} (h : i < es.length) : byP es p i = (es[i].who == p) := by
  unfold byP; rw [List.getElem?_eq_getElem h]
theorem c_iEventsBy (t : List UInt8) (p : Int) (h : t.length ≤ 1048576) : Fn Tryd.prog 21 [eS t, eI p] true (· = .tup [eIs (evBy t p).1, eI (evBy t p).2]) := by
  refine Fn.of_vcN 37 [.tmp 4, .tmp 5] Tryd.func21 rfl rfl rfl rfl rfl (of_decide_eq_true rfl) ?_
  unfold evBy
  have hf := rdJ_facts t
  have hc := c_iReadJournal t h
  generalize rdJ t = a at *
  obtain ⟨es, code⟩ := a
  dsimp only at hf hc ⊢
  simp -dsimp -implicitDefEqProofs only [go_sem, ↓reduceIte, Nat.reduceEqDiff, Nat.reduceLT, Nat.reduceAdd, Nat.reduceMul, Nat.reduceLeDiff, Nat.le_refl, Int.natCast_zero, Int.toNat_natCast, Int.reduceToNat]
  refine sCallT_one hc ?_
  rcases hk : (code != 0) with _ | _
  · have h0 : code = 0 := by simpa using hk
    rw [if_pos h0]
    simp -dsimp -implicitDefEqProofs only [go_sem, ↓reduceIte, Nat.reduceEqDiff, Nat.reduceLT, Nat.reduceAdd, Nat.reduceMul, Nat.reduceLeDiff, Nat.le_refl, Int.natCast_zero, Int.toNat_natCast, Int.reduceToNat, hk]
    refine Later.up [1, 20, 21] [10, 33, 34] [19] es.length (fun _ => True) (fun i => [(8, .ref 19 0 0 (flt (byP es p) i).length), (22, eI i)]) (fun i => [(19, .row 0 ⟨1, false⟩ true ((flt (byP es p) i).map eI))]) trivial ?_ rfl (fun i hi _ => ?_) (fun _ => ?_)
    · simp -dsimp -implicitDefEqProofs only [go_sem, ↓reduceIte, Nat.reduceEqDiff, Nat.reduceLT, Nat.reduceAdd, Nat.reduceMul, Nat.reduceLeDiff, Nat.le_refl, Int.natCast_zero, Int.toNat_natCast, Int.reduceToNat]
      simp [flt_zero]
    · have gi := get_some hi
      have hs := flt_succ (byP es p) i
      have hl := flt_len (byP es p) i
      rw [byP_get hi] at hs
      rw [hs]
      generalize es[i] = e at *
      generalize flt (byP es p) i = fl at *
      rcases hw : (e.who == p) with _ | _
      · rw [if_neg (by decide)]
        simp -dsimp -implicitDefEqProofs only [pick_nil, pick_cons, look_nil, look_cons, dropB_nil, dropB_cons, inD_nil, inD_cons, inE_nil, inE_cons, or_t_l, or_f_l, Nat.reduceBEq, Nat.reduceDiv, Nat.reduceAdd, beq_self_eq_true, Bool.false_eq_true, Bool.or_false, ↓reduceIte, Nat.reduceEqDiff, List.cons_append, List.nil_append]
        simp -dsimp -implicitDefEqProofs only [go_sem, ↓reduceIte, Nat.reduceEqDiff, Nat.reduceLT, Nat.reduceAdd, Nat.reduceMul, Nat.reduceLeDiff, Nat.le_refl, Int.natCast_zero, Int.toNat_natCast, Int.reduceToNat, lt_len hi, gi, hw]
        repeat' (with_reducible refine And.intro ?_ ?_)
        all_goals (first | omega | (refine ⟨?_, ?_⟩ <;> omega) | (exact rfl) | (simp; done) | trace_state)
      · rw [if_pos rfl]
        simp -dsimp -implicitDefEqProofs only [pick_nil, pick_cons, look_nil, look_cons, dropB_nil, dropB_cons, inD_nil, inD_cons, inE_nil, inE_cons, or_t_l, or_f_l, Nat.reduceBEq, Nat.reduceDiv, Nat.reduceAdd, beq_self_eq_true, Bool.false_eq_true, Bool.or_false, ↓reduceIte, Nat.reduceEqDiff, List.cons_append, List.nil_append]
        simp -dsimp -implicitDefEqProofs only [go_sem, ↓reduceIte, Nat.reduceEqDiff, Nat.reduceLT, Nat.reduceAdd, Nat.reduceMul, Nat.reduceLeDiff, Nat.le_refl, Int.natCast_zero, Int.toNat_natCast, Int.reduceToNat, lt_len hi, gi, hw]
        repeat' (with_reducible refine And.intro ?_ ?_)
        all_goals (first | omega | (refine ⟨?_, ?_⟩ <;> omega) | (exact rfl) | (simp; done) | trace_state)
    · simp -dsimp -implicitDefEqProofs only [pick_nil, pick_cons, look_nil, look_cons, dropB_nil, dropB_cons, inD_nil, inD_cons, inE_nil, inE_cons, or_t_l, or_f_l, Nat.reduceBEq, Nat.reduceDiv, Nat.reduceAdd, beq_self_eq_true, Bool.false_eq_true, Bool.or_false, ↓reduceIte, Nat.reduceEqDiff, List.cons_append, List.nil_append]
      simp -dsimp -implicitDefEqProofs only [go_sem, ↓reduceIte, Nat.reduceEqDiff, Nat.reduceLT, Nat.reduceAdd, Nat.reduceMul, Nat.reduceLeDiff, Nat.le_refl, Int.natCast_zero, Int.toNat_natCast, Int.reduceToNat, nlt_len]
      repeat' (with_reducible refine And.intro ?_ ?_)
      all_goals (first | omega | (refine ⟨?_, ?_⟩ <;> omega) | (exact rfl) | (simp; done) | trace_state)
  · have h0 : ¬ code = 0 := by simpa using hk
    rw [if_neg h0]
    simp -dsimp -implicitDefEqProofs only [go_sem, ↓reduceIte, Nat.reduceEqDiff, Nat.reduceLT, Nat.reduceAdd, Nat.reduceMul, Nat.reduceLeDiff, Nat.le_refl, Int.natCast_zero, Int.toNat_natCast, Int.reduceToNat, hk]
    repeat' (with_reducible refine And.intro ?_ ?_)
    all_goals (first | omega | (refine ⟨?_, ?_⟩ <;> omega) | (exact rfl) | (simp; done) | trace_state)
theorem c_sEventsBy (t : List UInt8) (p : Int) (h : t.length ≤ 1048576) : Fn Tryd.prog 20 [eS t, eI p] true (· = .tup [eIs (evBy t p).1, eI (evBy t p).2]) := by
  refine Fn.of_vcN 37 [.tmp 4, .tmp 5] Tryd.func20 rfl rfl rfl rfl rfl (of_decide_eq_true rfl) ?_
  unfold evBy
  have hf := rdJ_facts t
  have hc := c_sReadJournal t h
  generalize rdJ t = a at *
  obtain ⟨es, code⟩ := a
  dsimp only at hf hc ⊢
  simp -dsimp -implicitDefEqProofs only [go_sem, ↓reduceIte, Nat.reduceEqDiff, Nat.reduceLT, Nat.reduceAdd, Nat.reduceMul, Nat.reduceLeDiff, Nat.le_refl, Int.natCast_zero, Int.toNat_natCast, Int.reduceToNat]
  refine sCallT_one hc ?_
  rcases hk : (code != 0) with _ | _
  · have h0 : code = 0 := by simpa using hk
    rw [if_pos h0]
    simp -dsimp -implicitDefEqProofs only [go_sem, ↓reduceIte, Nat.reduceEqDiff, Nat.reduceLT, Nat.reduceAdd, Nat.reduceMul, Nat.reduceLeDiff, Nat.le_refl, Int.natCast_zero, Int.toNat_natCast, Int.reduceToNat, hk]
    refine Later.up [1, 6] [21, 34, 35] [18] es.length (fun _ => True) (fun i => [(8, .ref 18 0 0 (flt (byP es p) i).length), (9, eI i)]) (fun i => [(18, .row 0 ⟨1, false⟩ true ((flt (byP es p) i).map eI))]) trivial ?_ rfl (fun i hi _ => ?_) (fun _ => ?_)
    · simp -dsimp -implicitDefEqProofs only [go_sem, ↓reduceIte, Nat.reduceEqDiff, Nat.reduceLT, Nat.reduceAdd, Nat.reduceMul, Nat.reduceLeDiff, Nat.le_refl, Int.natCast_zero, Int.toNat_natCast, Int.reduceToNat]
      simp [flt_zero]
    · have gi := get_some hi
      have hs := flt_succ (byP es p) i
      have hl := flt_len (byP es p) i
      rw [byP_get hi] at hs
      rw [hs]
      generalize es[i] = e at *
      generalize flt (byP es p) i = fl at *
      rcases hw : (e.who == p) with _ | _
      · rw [if_neg (by decide)]
        simp -dsimp -implicitDefEqProofs only [pick_nil, pick_cons, look_nil, look_cons, dropB_nil, dropB_cons, inD_nil, inD_cons, inE_nil, inE_cons, or_t_l, or_f_l, Nat.reduceBEq, Nat.reduceDiv, Nat.reduceAdd, beq_self_eq_true, Bool.false_eq_true, Bool.or_false, ↓reduceIte, Nat.reduceEqDiff, List.cons_append, List.nil_append]
        simp -dsimp -implicitDefEqProofs only [go_sem, ↓reduceIte, Nat.reduceEqDiff, Nat.reduceLT, Nat.reduceAdd, Nat.reduceMul, Nat.reduceLeDiff, Nat.le_refl, Int.natCast_zero, Int.toNat_natCast, Int.reduceToNat, lt_len hi, gi, hw]
        repeat' (with_reducible refine And.intro ?_ ?_)
        all_goals (first | omega | (refine ⟨?_, ?_⟩ <;> omega) | (exact rfl) | (simp; done) | trace_state)
      · rw [if_pos rfl]
        simp -dsimp -implicitDefEqProofs only [pick_nil, pick_cons, look_nil, look_cons, dropB_nil, dropB_cons, inD_nil, inD_cons, inE_nil, inE_cons, or_t_l, or_f_l, Nat.reduceBEq, Nat.reduceDiv, Nat.reduceAdd, beq_self_eq_true, Bool.false_eq_true, Bool.or_false, ↓reduceIte, Nat.reduceEqDiff, List.cons_append, List.nil_append]
        simp -dsimp -implicitDefEqProofs only [go_sem, ↓reduceIte, Nat.reduceEqDiff, Nat.reduceLT, Nat.reduceAdd, Nat.reduceMul, Nat.reduceLeDiff, Nat.le_refl, Int.natCast_zero, Int.toNat_natCast, Int.reduceToNat, lt_len hi, gi, hw]
        repeat' (with_reducible refine And.intro ?_ ?_)
        all_goals (first | omega | (refine ⟨?_, ?_⟩ <;> omega) | (exact rfl) | (simp; done) | trace_state)
    · simp -dsimp -implicitDefEqProofs only [pick_nil, pick_cons, look_nil, look_cons, dropB_nil, dropB_cons, inD_nil, inD_cons, inE_nil, inE_cons, or_t_l, or_f_l, Nat.reduceBEq, Nat.reduceDiv, Nat.reduceAdd, beq_self_eq_true, Bool.false_eq_true, Bool.or_false, ↓reduceIte, Nat.reduceEqDiff, List.cons_append, List.nil_append]
      simp -dsimp -implicitDefEqProofs only [go_sem, ↓reduceIte, Nat.reduceEqDiff, Nat.reduceLT, Nat.reduceAdd, Nat.reduceMul, Nat.reduceLeDiff, Nat.le_refl, Int.natCast_zero, Int.toNat_natCast, Int.reduceToNat, nlt_len]
      repeat' (with_reducible refine And.intro ?_ ?_)
      all_goals (first | omega | (refine ⟨?_, ?_⟩ <;> omega) | (exact rfl) | (simp; done) | trace_state)
  · have h0 : ¬ code = 0 := by simpa using hk
    rw [if_neg h0]
    simp -dsimp -implicitDefEqProofs only [go_sem, ↓reduceIte, Nat.reduceEqDiff, Nat.reduceLT, Nat.reduceAdd, Nat.reduceMul, Nat.reduceLeDiff, Nat.le_refl, Int.natCast_zero, Int.toNat_natCast, Int.reduceToNat, hk]
    repeat' (with_reducible refine And.intro ?_ ?_)
    all_goals (first | omega | (refine ⟨?_, ?_⟩ <;> omega) | (exact rfl) | (simp; done) | trace_state)
end Go.Vc
