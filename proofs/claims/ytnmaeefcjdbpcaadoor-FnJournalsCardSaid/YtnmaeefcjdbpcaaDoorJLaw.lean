/-
  Plain laws: a journal that was written is read again, cut too; lists of events alike.
-/
import Derived.Test.YtnmaeefcjdbpcaaDoorJourX
set_option linter.unusedVariables false
set_option linter.unusedSimpArgs false
set_option linter.unnecessarySimpa false
namespace Go.Vc
open Go.Proofs Go.Lib
set_option maxRecDepth 100000
theorem recJ_jT (rest : List UInt8) (hr : (10 : UInt8) ∉ rest) : ∀ (es ds : List EvM) (f : Nat) (c : Int), es.length ≤ f → ds.length + es.length ≤ 1000000 → (∀ e ∈ es, isJ e = true) →
    recJ f ds (jT c ds.length es ++ rest) c = (ds ++ es, rest, jC c ds.length es)
  | [], ds, 0, c, _, _, _ => by simp [recJ, jT, jC]
  | [], ds, f + 1, c, _, _, _ => by
    rw [recJ, jT, List.nil_append, next_none _ _ hr]; simp [jC]
  | e :: r, ds, 0, c, h, _, _ => by simp at h
  | e :: r, ds, f + 1, c, h, hl, hj => by
    simp only [List.length_cons] at h hl
    have hn : nextE (jT c ds.length (e :: r) ++ rest) ds.length c = some e :=
      (nextE_iff (by omega)).2 ⟨hj e (List.mem_cons_self ..), ⟨jT (chainOf c (jHead ds.length e)) (ds.length + 1) r ++ rest, by rw [jT, List.append_assoc]⟩⟩
    rw [recJ, hn]
    dsimp only
    have hd : (jT c ds.length (e :: r) ++ rest).drop (jLine c ds.length e).length = jT (chainOf c (jHead ds.length e)) (ds ++ [e]).length r ++ rest := by
      rw [jT, List.append_assoc, List.drop_left, List.length_append, List.length_singleton]
    rw [hd, recJ_jT rest hr r (ds ++ [e]) f _ (by omega) (by simp; omega) fun x hx => hj x (List.mem_cons_of_mem _ hx)]
    rw [List.append_assoc, List.singleton_append, List.length_append, List.length_singleton, jC]
theorem readJ_jT {es : List EvM} (rest : List UInt8) (hr : (10 : UInt8) ∉ rest) (h : es.length ≤ 60) (hj : ∀ e ∈ es, isJ e = true) : readJ (jT 1 0 es ++ rest) = (es, rest, jC 1 0 es) := by
  have := recJ_jT rest hr es [] 60 1 h (by simp; omega) hj
  simpa [readJ] using this
theorem jText_ok {es : List EvM} (h : (jText es).2 = 0) : (jText es).1 = jT 1 0 es ∧ (jT 1 0 es).length ≤ 1000 ∧ es.length ≤ 60 ∧ ∀ e ∈ es, isJ e = true := by
  unfold jText at *
  split at h
  · rename_i h1
    rw [if_pos h1]
    split at h
    · cases h
    · rename_i h2
      rw [if_neg h2]
      split at h
      · cases h
      · rename_i h3
        rw [if_neg h3]
        exact ⟨rfl, by omega, by omega, by simpa using h1⟩
  · cases h
theorem rd_jText {es : List EvM} (h : (jText es).2 = 0) : rdJ (jText es).1 = (es, 0) := by
  obtain ⟨h1, h2, h3, h4⟩ := jText_ok h
  have h5 := readJ_jT [] (by simp) h3 h4
  rw [List.append_nil] at h5
  rw [h1, rdJ, if_neg (by omega), h5]
  simp
theorem cut_jT : ∀ (es : List EvM) (c : Int) (k n : Nat), ∃ (m : Nat) (rest : List UInt8), m ≤ es.length ∧ (jT c k es).take n = jT c k (es.take m) ++ rest ∧ (10 : UInt8) ∉ rest ∧ ((jT c k es).take n).count 10 = m
  | [], c, k, n => ⟨0, [], by simp, by simp [jT], by simp, by simp [jT]⟩
  | e :: r, c, k, n => by
    have hb := jBody_no c k e
    have hlen : (jLine c k e).length = (jBody c k e).length + 1 := by simp [jLine]
    by_cases h : (jLine c k e).length ≤ n
    · obtain ⟨m, rest, h1, h2, h3, h4⟩ := cut_jT r (chainOf c (jHead k e)) (k + 1) (n - (jLine c k e).length)
      have e1 : (jT c k (e :: r)).take n = jLine c k e ++ (jT (chainOf c (jHead k e)) (k + 1) r).take (n - (jLine c k e).length) := by
        rw [jT, List.take_append, List.take_of_length_le h]
      refine ⟨m + 1, rest, by simp; omega, ?_, h3, ?_⟩
      · rw [e1, h2, List.take_succ_cons, jT, List.append_assoc]
      · rw [e1, List.count_append, h4, jLine, List.count_append, List.count_eq_zero.2 hb]
        simp; omega
    · have e1 : (jT c k (e :: r)).take n = (jBody c k e).take n := by
        rw [jT, jLine, List.append_assoc, List.take_append_of_le_length (by omega)]
      have hn : (10 : UInt8) ∉ (jBody c k e).take n := fun hm => hb (List.mem_of_mem_take hm)
      exact ⟨0, (jBody c k e).take n, by simp, by rw [e1]; simp [jT], hn, by rw [e1]; exact List.count_eq_zero.2 hn⟩
theorem recov_cut {es : List EvM} (h : (jText es).2 = 0) (n : Nat) : (recov ((jText es).1.take n)).1 = es.take (((jText es).1.take n).count 10) ∧ (recov ((jText es).1.take n)).2.2 = 0 ∧ ((jText es).1.take n).count 10 ≤ es.length := by
  obtain ⟨h1, h2, h3, h4⟩ := jText_ok h
  rw [h1]
  obtain ⟨m, rest, g1, g2, g3, g4⟩ := cut_jT es 1 0 n
  have hl : ((jT 1 0 es).take n).length ≤ 1000 := by rw [List.length_take]; omega
  rw [g4, g2]
  rw [g2] at hl
  have h5 := readJ_jT (es := es.take m) rest g3 (by simp; omega) fun e he => h4 e (List.mem_of_mem_take he)
  rw [recov, if_neg (by omega), h5]
  exact ⟨rfl, rfl, g1⟩
theorem recov_facts {s : List UInt8} (h : (recov s).2.2 = 0) : (recov s).2.1 ≤ s.length ∧ (((rdJ s).2 == 0) = ((recov s).2.1 == (s.length : Int))) := by
  have hf := (readJ_facts s).1
  unfold recov rdJ at *
  split at h
  · cases h
  · rename_i h1
    rw [if_neg h1, if_neg h1]
    split
    · rename_i h2
      refine ⟨by dsimp only; omega, ?_⟩
      have : (((s.length - (readJ s).2.1.length : Nat) : Int) == (s.length : Int)) = false := by simp; omega
      rw [this]; rfl
    · rename_i h2
      refine ⟨by dsimp only; omega, ?_⟩
      have : (((s.length - (readJ s).2.1.length : Nat) : Int) == (s.length : Int)) = true := by simp; omega
      rw [this]; rfl
theorem recov_len (t : List UInt8) : (recov t).1.length ≤ 60 := by
  have := readJ_facts t
  unfold recov; split
  · simp
  · exact this.2.2.2
theorem andB (a : Int) : 0 ≤ IntKind.u64.wrap ((BitVec.ofInt IntKind.u64.bits a &&& BitVec.ofInt IntKind.u64.bits 16777215).toNat : Int) ∧
    IntKind.u64.wrap ((BitVec.ofInt IntKind.u64.bits a &&& BitVec.ofInt IntKind.u64.bits 16777215).toNat : Int) ≤ 16777215 := by
  have h : (BitVec.ofInt IntKind.u64.bits a &&& BitVec.ofInt IntKind.u64.bits 16777215).toNat ≤ 16777215 := by
    rw [BitVec.toNat_and]
    exact Nat.le_trans Nat.and_le_right (by decide)
  rw [IntWalk.u64_in _ ⟨by omega, by omega⟩]
  omega
theorem fk_Event : flatK Tryd.prog 45 = some [.int .i64, .int .i64, .int .i64, .int .i64] := by kernel_rfl
attribute [go_sem] fk_Event
theorem ev_beq (t u : EvM) : ((true && (t.kind == u.kind) && (t.tag == u.tag) && (t.person == u.person) && (t.who == u.who)) = true) ↔ t = u := by
  cases t; cases u; simp [and_assoc]
theorem c_likeEvents (xs ys : List EvM) (h1 : xs.length ≤ 9223372036854775807) : Fn Tryd.prog 37 [eEvs xs, eEvs ys] true (· = eB (decide (xs = ys))) := by
  refine Fn.of_vcN 26 [.tmp 4] Tryd.func37 rfl rfl rfl rfl rfl (of_decide_eq_true rfl) ?_
  simp -dsimp -implicitDefEqProofs only [go_sem, ↓reduceIte, Nat.reduceEqDiff, Nat.reduceLT, Nat.reduceAdd, Nat.reduceMul, Nat.reduceLeDiff, Nat.le_refl, Int.natCast_zero, Int.toNat_natCast, Int.reduceToNat]
  rcases hne : ((xs.length : Int) != ys.length) with _ | _
  · have hl : xs.length = ys.length := by simp at hne; omega
    simp -dsimp -implicitDefEqProofs only [go_sem, ↓reduceIte, Nat.reduceEqDiff, Nat.reduceLT, Nat.reduceAdd, Nat.reduceMul, Nat.reduceLeDiff, Nat.le_refl, Int.natCast_zero, Int.toNat_natCast, Int.reduceToNat, hne]
    refine Later.up [0, 1] [13] [] xs.length (fun i => xs.take i = ys.take i) (fun i => [(5, eI i)]) (fun _ => []) rfl ?_ rfl (fun i hi hI => ?_) (fun hI => ?_)
    · simp -dsimp -implicitDefEqProofs only [go_sem, ↓reduceIte, Nat.reduceEqDiff, Nat.reduceLT, Nat.reduceAdd, Nat.reduceMul, Nat.reduceLeDiff, Nat.le_refl, Int.natCast_zero, Int.toNat_natCast, Int.reduceToNat]
    · have hy : i < ys.length := by omega
      have no : xs[i] ≠ ys[i] → decide (xs = ys) = false := fun h => decide_eq_false fun e => by
        have := eq_no hi hy h
        rw [e] at this; simp at this
      have yes : xs[i] = ys[i] → xs.take (i + 1) = ys.take (i + 1) := eq_yes hi hy hI
      have gx := get_some hi
      have gy := get_some hy
      have tb := ev_beq xs[i] ys[i]
      generalize xs[i] = x at *
      generalize ys[i] = y at *
      simp -dsimp -implicitDefEqProofs only [pick_nil, pick_cons, look_nil, look_cons, dropB_nil, dropB_cons, inD_nil, inD_cons, inE_nil, inE_cons, or_t_l, or_f_l, Nat.reduceBEq, Nat.reduceDiv, Nat.reduceAdd, beq_self_eq_true, Bool.false_eq_true, Bool.or_false, ↓reduceIte, Nat.reduceEqDiff, List.cons_append, List.nil_append]
      simp -dsimp -implicitDefEqProofs only [go_sem, ↓reduceIte, Nat.reduceEqDiff, Nat.reduceLT, Nat.reduceAdd, Nat.reduceMul, Nat.reduceLeDiff, Nat.le_refl, Int.natCast_zero, Int.toNat_natCast, Int.reduceToNat, lt_len hi]
      refine Later.draw mixed rfl ?_
      simp -dsimp -implicitDefEqProofs only [go_sem, ↓reduceIte, Nat.reduceEqDiff, Nat.reduceLT, Nat.reduceAdd, Nat.reduceMul, Nat.reduceLeDiff, Nat.le_refl, Int.natCast_zero, Int.toNat_natCast, Int.reduceToNat, gx, gy]
      repeat' (with_reducible refine And.intro ?_ ?_)
      all_goals try (first | omega | (refine ⟨?_, ?_⟩ <;> omega) | (exact rfl))
      rcases hc : ((x.kind == y.kind) && (x.tag == y.tag) && (x.person == y.person) && (x.who == y.who)) with _ | _
      · have hxy : x ≠ y := fun e => by
          have := tb.2 e
          rw [Bool.true_and, hc] at this
          cases this
        simp -dsimp -implicitDefEqProofs only [go_sem, ↓reduceIte, Nat.reduceEqDiff, Nat.reduceLT, Nat.reduceAdd, Nat.reduceMul, Nat.reduceLeDiff, Nat.le_refl, Int.natCast_zero, Int.toNat_natCast, Int.reduceToNat, hc]
        rw [no hxy]
        all_goals first | omega | (refine ⟨?_, ?_⟩ <;> omega) | (simp; done) | (simp; omega) | (exact rfl) | trace_state
      · have hxy : x = y := tb.1 (by rw [Bool.true_and]; exact hc)
        simp -dsimp -implicitDefEqProofs only [go_sem, ↓reduceIte, Nat.reduceEqDiff, Nat.reduceLT, Nat.reduceAdd, Nat.reduceMul, Nat.reduceLeDiff, Nat.le_refl, Int.natCast_zero, Int.toNat_natCast, Int.reduceToNat, hc]
        repeat' (with_reducible refine And.intro ?_ ?_)
        all_goals first | omega | (refine ⟨?_, ?_⟩ <;> omega) | (exact yes hxy) | (simp; done) | trace_state
    · have h3 : xs = ys := by rw [← List.take_length (l := xs), hI, hl, List.take_length]
      simp -dsimp -implicitDefEqProofs only [pick_nil, pick_cons, look_nil, look_cons, dropB_nil, dropB_cons, inD_nil, inD_cons, inE_nil, inE_cons, or_t_l, or_f_l, Nat.reduceBEq, Nat.reduceDiv, Nat.reduceAdd, beq_self_eq_true, Bool.false_eq_true, Bool.or_false, ↓reduceIte, Nat.reduceEqDiff, List.cons_append, List.nil_append]
      simp -dsimp -implicitDefEqProofs only [go_sem, ↓reduceIte, Nat.reduceEqDiff, Nat.reduceLT, Nat.reduceAdd, Nat.reduceMul, Nat.reduceLeDiff, Nat.le_refl, Int.natCast_zero, Int.toNat_natCast, Int.reduceToNat, nlt_len]
      simp [h3]
  · simp -dsimp -implicitDefEqProofs only [go_sem, ↓reduceIte, Nat.reduceEqDiff, Nat.reduceLT, Nat.reduceAdd, Nat.reduceMul, Nat.reduceLeDiff, Nat.le_refl, Int.natCast_zero, Int.toNat_natCast, Int.reduceToNat, hne]
    rw [decide_eq_false]
    intro e
    rw [e] at hne
    simp at hne
end Go.Vc
