/-
  Plain laws: a journal that was written is read again; what is appended stands behind what was there; lists of events alike.
-/
import Derived.Test.YtnmaeefcjdbpcaaGreatDoorReplay
import Derived.Test.YtnmaeefcjdbpcaaGreatDoorDraws
import Derived.Test.YtnmaeefcjdbpcaaGreatDoorLikes
set_option linter.unusedVariables false
set_option linter.unusedSimpArgs false
set_option linter.unnecessarySimpa false
namespace Go.Vc
open Go.Proofs Go.Lib
set_option maxRecDepth 100000
theorem recJ_jT (rest : List UInt8) (hr : (10 : UInt8) ∉ rest) : ∀ (es ds : List EvM) (f : Nat) (c : Int), es.length ≤ f → ds.length + es.length ≤ 1000000 → (∀ e ∈ es, isJ e = true) →
    recJ f ds (jT c ds.length es ++ rest) c = (ds ++ es, rest, jC c ds.length es)
  | [], ds, 0, c, _, _, _ => by simp [recJ, jT, jC]
  | [], ds, f + 1, c, _, _, _ => by
    rw [recJ, jT, List.nil_append, next_none _ _ hr]; simp [jC]
  | e :: r, ds, 0, c, h, _, _ => by simp at h
  | e :: r, ds, f + 1, c, h, hl, hj => by
    simp only [List.length_cons] at h hl
    have hn : nextE (jT c ds.length (e :: r) ++ rest) ds.length c = some e :=
      (nextE_iff (by omega)).2 ⟨hj e (List.mem_cons_self ..), ⟨jT (chainOf c (jHead ds.length e)) (ds.length + 1) r ++ rest, by rw [jT, List.append_assoc]⟩⟩
    rw [recJ, hn]
    dsimp only
    have hd : (jT c ds.length (e :: r) ++ rest).drop (jLine c ds.length e).length = jT (chainOf c (jHead ds.length e)) (ds ++ [e]).length r ++ rest := by
      rw [jT, List.append_assoc, List.drop_left, List.length_append, List.length_singleton]
    rw [hd, recJ_jT rest hr r (ds ++ [e]) f _ (by omega) (by simp; omega) fun x hx => hj x (List.mem_cons_of_mem _ hx)]
    rw [List.append_assoc, List.singleton_append, List.length_append, List.length_singleton, jC]
theorem readJ_jT {es : List EvM} (rest : List UInt8) (hr : (10 : UInt8) ∉ rest) (h : es.length ≤ 60) (hj : ∀ e ∈ es, isJ e = true) : readJ (jT 1 0 es ++ rest) = (es, rest, jC 1 0 es) := by
  have := recJ_jT rest hr es [] 60 1 h (by simp; omega) hj
  simpa [readJ] using this
theorem jText_ok {es : List EvM} (h : (jText es).2 = 0) : (jText es).1 = jT 1 0 es ∧ (jT 1 0 es).length ≤ 1000 ∧ es.length ≤ 60 ∧ ∀ e ∈ es, isJ e = true := by
  unfold jText at *
  split at h
  · rename_i h1
    rw [if_pos h1]
    split at h
    · cases h
    · rename_i h2
      rw [if_neg h2]
      split at h
      · cases h
      · rename_i h3
        rw [if_neg h3]
        exact ⟨rfl, by omega, by omega, by simpa using h1⟩
  · cases h
theorem rd_jText {es : List EvM} (h : (jText es).2 = 0) : rdJ (jText es).1 = (es, 0) := by
  obtain ⟨h1, h2, h3, h4⟩ := jText_ok h
  have h5 := readJ_jT [] (by simp) h3 h4
  rw [List.append_nil] at h5
  rw [h1, rdJ, if_neg (by omega), h5]
  simp
theorem rdJ_zero {t : List UInt8} (h : (rdJ t).2 = 0) : t = jT 1 0 (rdJ t).1 := by
  unfold rdJ at *
  split at h
  · cases h
  · rename_i h1
    rw [if_neg h1]
    split at h
    · cases h
    · rename_i h2
      rw [if_neg h2]
      have := (readJ_inv t).1.txt
      have h3 : (readJ t).2.1 = [] := List.eq_nil_of_length_eq_zero (by omega)
      rw [h3, List.append_nil] at this
      exact this
theorem appE_ok {t : List UInt8} {e : EvM} (h : (appE t e).2 = 0) : (rdJ t).2 = 0 ∧ rdJ (appE t e).1 = ((rdJ t).1 ++ [e], 0) ∧ (appE t e).1.take t.length = t := by
  unfold appE at *
  by_cases h0 : (rdJ t).2 = 0
  · rw [if_pos h0] at h ⊢
    have h1 := rdJ_zero h0
    refine ⟨h0, rd_jText h, ?_⟩
    rw [(jText_ok h).1, jT_snoc, ← h1, List.take_left]
  · rw [if_neg h0] at h
    exact absurd h h0
theorem appE_len (t : List UInt8) (e : EvM) : (appE t e).1.length ≤ 1000 := by
  unfold appE
  split
  · have : ∀ es : List EvM, (jText es).1.length ≤ 1000 := fun es => by
      unfold jText
      split
      · split
        · simp
        · split
          · simp
          · dsimp only; omega
      · simp
    exact this _
  · simp
theorem runEv_isReg {r : RegM} {es : List EvM} (hr : isReg r = true) (he : ∀ e ∈ es, isEv r e = true) (i : Nat) (hi : i ≤ es.length) : isReg (runEv r (es.take i)).1 = true := by
  induction i with
  | zero => simpa [runEv] using hr
  | succ i ih =>
    have hlt : i < es.length := by omega
    have h1 := ih (by omega)
    obtain ⟨p1, p2, p3, p4⟩ := runEv_inv r es i (by omega)
    rw [runEv_take _ _ _ hlt]
    generalize runEv r (es.take i) = p at *
    unfold stepEv
    split
    · rename_i hc
      refine isReg_apply h1 ?_ hc
      have := he _ (List.getElem_mem hlt)
      rw [← isEv_eq p.1.tags r _ p2] at this
      rwa [show (⟨p.1.tags, r.roles⟩ : RegM) = p.1 by rw [← p1]] at this
    · exact h1
theorem repJ_ok {r : RegM} {t : List UInt8} (h : (repJ r t).2.2 = 0) : isReg (repJ r t).1 = true := by
  unfold repJ at *
  split at h
  · rename_i h0
    rw [if_pos h0]
    unfold runEvents at *
    split at h
    · rename_i h1
      rw [if_pos h1]
      obtain ⟨q1, q2, q3⟩ := evsCode_zero h1
      have := runEv_isReg q1 q2 _ (Nat.le_refl _)
      rwa [List.take_length] at this
    · rename_i h1; exact absurd h h1
  · rename_i h0; exact absurd h h0
theorem evBy_len (t : List UInt8) (p : Int) : (evBy t p).1.length ≤ 60 := by
  have := rdJ_facts t
  unfold evBy; split
  · have := flt_len (byP (rdJ t).1 p) (rdJ t).1.length
    dsimp only; omega
  · simp
theorem fk_Event : flatK Tryz.prog 39 = some [.int .i64, .int .i64, .int .i64, .int .i64] := by kernel_rfl
attribute [go_sem] fk_Event
theorem ev_beq (t u : EvM) : ((true && (t.kind == u.kind) && (t.tag == u.tag) && (t.person == u.person) && (t.who == u.who)) = true) ↔ t = u := by
  cases t; cases u; simp [and_assoc]
theorem c_likeEvents (xs ys : List EvM) (h1 : xs.length ≤ 9223372036854775807) : Fn Tryz.prog 28 [eEvs xs, eEvs ys] true (· = eB (decide (xs = ys))) := by
  refine Fn.of_vcN 26 [.tmp 4] Tryz.func28 rfl rfl rfl rfl rfl (of_decide_eq_true rfl) ?_
  simp -dsimp -implicitDefEqProofs only [go_sem, ↓reduceIte, Nat.reduceEqDiff, Nat.reduceLT, Nat.reduceAdd, Nat.reduceMul, Nat.reduceLeDiff, Nat.le_refl, Int.natCast_zero, Int.toNat_natCast, Int.reduceToNat]
  rcases hne : ((xs.length : Int) != ys.length) with _ | _
  · have hl : xs.length = ys.length := by simp at hne; omega
    simp -dsimp -implicitDefEqProofs only [go_sem, ↓reduceIte, Nat.reduceEqDiff, Nat.reduceLT, Nat.reduceAdd, Nat.reduceMul, Nat.reduceLeDiff, Nat.le_refl, Int.natCast_zero, Int.toNat_natCast, Int.reduceToNat, hne]
    refine Later.up [0, 1] [13] [] xs.length (fun i => xs.take i = ys.take i) (fun i => [(5, eI i)]) (fun _ => []) rfl ?_ rfl (fun i hi hI => ?_) (fun hI => ?_)
    · simp -dsimp -implicitDefEqProofs only [go_sem, ↓reduceIte, Nat.reduceEqDiff, Nat.reduceLT, Nat.reduceAdd, Nat.reduceMul, Nat.reduceLeDiff, Nat.le_refl, Int.natCast_zero, Int.toNat_natCast, Int.reduceToNat]
    · have hy : i < ys.length := by omega
      have no : xs[i] ≠ ys[i] → decide (xs = ys) = false := fun h => decide_eq_false fun e => by
        have := eq_no hi hy h
        rw [e] at this; simp at this
      have yes : xs[i] = ys[i] → xs.take (i + 1) = ys.take (i + 1) := eq_yes hi hy hI
      have gx := get_some hi
      have gy := get_some hy
      have tb := ev_beq xs[i] ys[i]
      generalize xs[i] = x at *
      generalize ys[i] = y at *
      simp -dsimp -implicitDefEqProofs only [pick_nil, pick_cons, look_nil, look_cons, dropB_nil, dropB_cons, inD_nil, inD_cons, inE_nil, inE_cons, or_t_l, or_f_l, Nat.reduceBEq, Nat.reduceDiv, Nat.reduceAdd, beq_self_eq_true, Bool.false_eq_true, Bool.or_false, ↓reduceIte, Nat.reduceEqDiff, List.cons_append, List.nil_append]
      simp -dsimp -implicitDefEqProofs only [go_sem, ↓reduceIte, Nat.reduceEqDiff, Nat.reduceLT, Nat.reduceAdd, Nat.reduceMul, Nat.reduceLeDiff, Nat.le_refl, Int.natCast_zero, Int.toNat_natCast, Int.reduceToNat, lt_len hi]
      refine Later.draw mixed rfl ?_
      simp -dsimp -implicitDefEqProofs only [go_sem, ↓reduceIte, Nat.reduceEqDiff, Nat.reduceLT, Nat.reduceAdd, Nat.reduceMul, Nat.reduceLeDiff, Nat.le_refl, Int.natCast_zero, Int.toNat_natCast, Int.reduceToNat, gx, gy]
      repeat' (with_reducible refine And.intro ?_ ?_)
      all_goals try (first | omega | (refine ⟨?_, ?_⟩ <;> omega) | (exact rfl))
      rcases hc : ((x.kind == y.kind) && (x.tag == y.tag) && (x.person == y.person) && (x.who == y.who)) with _ | _
      · have hxy : x ≠ y := fun e => by
          have := tb.2 e
          rw [Bool.true_and, hc] at this
          cases this
        simp -dsimp -implicitDefEqProofs only [go_sem, ↓reduceIte, Nat.reduceEqDiff, Nat.reduceLT, Nat.reduceAdd, Nat.reduceMul, Nat.reduceLeDiff, Nat.le_refl, Int.natCast_zero, Int.toNat_natCast, Int.reduceToNat, hc]
        rw [no hxy]
        all_goals first | omega | (refine ⟨?_, ?_⟩ <;> omega) | (simp; done) | (simp; omega) | (exact rfl) | trace_state
      · have hxy : x = y := tb.1 (by rw [Bool.true_and]; exact hc)
        simp -dsimp -implicitDefEqProofs only [go_sem, ↓reduceIte, Nat.reduceEqDiff, Nat.reduceLT, Nat.reduceAdd, Nat.reduceMul, Nat.reduceLeDiff, Nat.le_refl, Int.natCast_zero, Int.toNat_natCast, Int.reduceToNat, hc]
        repeat' (with_reducible refine And.intro ?_ ?_)
        all_goals first | omega | (refine ⟨?_, ?_⟩ <;> omega) | (exact yes hxy) | (simp; done) | trace_state
    · have h3 : xs = ys := by rw [← List.take_length (l := xs), hI, hl, List.take_length]
      simp -dsimp -implicitDefEqProofs only [pick_nil, pick_cons, look_nil, look_cons, dropB_nil, dropB_cons, inD_nil, inD_cons, inE_nil, inE_cons, or_t_l, or_f_l, Nat.reduceBEq, Nat.reduceDiv, Nat.reduceAdd, beq_self_eq_true, Bool.false_eq_true, Bool.or_false, ↓reduceIte, Nat.reduceEqDiff, List.cons_append, List.nil_append]
      simp -dsimp -implicitDefEqProofs only [go_sem, ↓reduceIte, Nat.reduceEqDiff, Nat.reduceLT, Nat.reduceAdd, Nat.reduceMul, Nat.reduceLeDiff, Nat.le_refl, Int.natCast_zero, Int.toNat_natCast, Int.reduceToNat, nlt_len]
      simp [h3]
  · simp -dsimp -implicitDefEqProofs only [go_sem, ↓reduceIte, Nat.reduceEqDiff, Nat.reduceLT, Nat.reduceAdd, Nat.reduceMul, Nat.reduceLeDiff, Nat.le_refl, Int.natCast_zero, Int.toNat_natCast, Int.reduceToNat, hne]
    rw [decide_eq_false]
    intro e
    rw [e] at hne
    simp at hne
end Go.Vc
