/-
  Events run by the reference; one event applied; tags and states counted.
-/
import Derived.Test.YtphhlffifljciaaEvent3
set_option linter.unusedVariables false
set_option linter.unusedSimpArgs false
set_option linter.unnecessarySimpa false
namespace Go.Vc
open Go.Proofs
set_option maxRecDepth 100000
theorem c_sRunEvents (r : RegM) (es : List EvM) (h1 : r.tags.length ≤ 1048576) (h2 : r.roles.length ≤ 1048576) (h3 : es.length ≤ 1048576) : Fn Try.prog 25 [eReg r, eEvs es] true (· = .tup [eReg (runEvents r es).1, eI (runEvents r es).2.1, eI (runEvents r es).2.2]) := by
  refine Fn.of_vcN 63 [.cell 4 40, .tmp 5, .tmp 6] Try.func25 rfl rfl rfl rfl rfl (of_decide_eq_true rfl) ?_
  simp -dsimp -implicitDefEqProofs only [go_sem, ↓reduceIte, Nat.reduceEqDiff, Nat.reduceLT, Nat.reduceAdd, Nat.reduceMul, Nat.reduceLeDiff, Nat.le_refl, Int.natCast_zero, Int.toNat_natCast, Int.reduceToNat]
  repeat' first
    | (refine Br.intro (fun _ => ?_) (fun _ => ?_) <;> try simp -dsimp -implicitDefEqProofs only [go_sem, ↓reduceIte, Nat.reduceEqDiff, Nat.reduceLT, Nat.reduceAdd, Nat.reduceMul, Nat.reduceLeDiff, Nat.le_refl, Int.natCast_zero, Int.toNat_natCast, Int.reduceToNat, *])
    | (refine sCallT_one (c_sIsRegister _) ?_; try simp -dsimp -implicitDefEqProofs only [go_sem, ↓reduceIte, Nat.reduceEqDiff, Nat.reduceLT, Nat.reduceAdd, Nat.reduceMul, Nat.reduceLeDiff, Nat.le_refl, Int.natCast_zero, Int.toNat_natCast, Int.reduceToNat, *])
  · simp_all [runEvents, evsCode]
  refine Later.up [1, 2, 4] [17, 26] [] es.length (fun i => (es.take i).all (isEv r)) (fun i => [(7, eI i)]) (fun _ => []) (by simp) ?_ rfl (fun i hi hI => ?_) (fun hI => ?_)
  · simp -dsimp -implicitDefEqProofs only [go_sem, ↓reduceIte, Nat.reduceEqDiff, Nat.reduceLT, Nat.reduceAdd, Nat.reduceMul, Nat.reduceLeDiff, Nat.le_refl, Int.natCast_zero, Int.toNat_natCast, Int.reduceToNat]
  · simp -dsimp -implicitDefEqProofs only [pick_nil, pick_cons, look_nil, look_cons, dropB_nil, dropB_cons, inD_nil, inD_cons, inE_nil, inE_cons, or_t_l, or_f_l, Nat.reduceBEq, Nat.reduceDiv, Nat.reduceAdd, beq_self_eq_true, Bool.false_eq_true, Bool.or_false, ↓reduceIte, Nat.reduceEqDiff, List.cons_append, List.nil_append]
    have no : isEv r es[i] = false → runEvents r es = (⟨[], []⟩, 0, 2) := fun h => by
      have : evsCode r es = 2 := by simp_all [evsCode, all_no hi h]
      simp [runEvents, this]
    have yes : isEv r es[i] = true → ((es.take (i + 1)).all (isEv r)) = true := fun h => by rw [all_take _ _ _ hi, hI, h]; rfl
    simp -dsimp -implicitDefEqProofs only [go_sem, ↓reduceIte, Nat.reduceEqDiff, Nat.reduceLT, Nat.reduceAdd, Nat.reduceMul, Nat.reduceLeDiff, Nat.le_refl, Int.natCast_zero, Int.toNat_natCast, Int.reduceToNat, lt_len hi, get_some hi]
    (refine Later.draw mixed rfl ?_; try simp -dsimp -implicitDefEqProofs only [go_sem, ↓reduceIte, Nat.reduceEqDiff, Nat.reduceLT, Nat.reduceAdd, Nat.reduceMul, Nat.reduceLeDiff, Nat.le_refl, Int.natCast_zero, Int.toNat_natCast, Int.reduceToNat, *])
    try simp -dsimp -implicitDefEqProofs only [go_sem, ↓reduceIte, Nat.reduceEqDiff, Nat.reduceLT, Nat.reduceAdd, Nat.reduceMul, Nat.reduceLeDiff, Nat.le_refl, Int.natCast_zero, Int.toNat_natCast, Int.reduceToNat, get_some hi]
    repeat' first
      | (refine Br.intro (fun _ => ?_) (fun _ => ?_) <;> try simp -dsimp -implicitDefEqProofs only [go_sem, ↓reduceIte, Nat.reduceEqDiff, Nat.reduceLT, Nat.reduceAdd, Nat.reduceMul, Nat.reduceLeDiff, Nat.le_refl, Int.natCast_zero, Int.toNat_natCast, Int.reduceToNat, *])
      | (with_reducible refine And.intro ?_ ?_)
      | (refine sCallX_one (c_l30Event _ _ h1 h2) ?_; try simp -dsimp -implicitDefEqProofs only [go_sem, ↓reduceIte, Nat.reduceEqDiff, Nat.reduceLT, Nat.reduceAdd, Nat.reduceMul, Nat.reduceLeDiff, Nat.le_refl, Int.natCast_zero, Int.toNat_natCast, Int.reduceToNat, *])
    all_goals first
      | omega
      | (refine ⟨?_, ?_⟩ <;> omega)
      | rfl
      | (simp; done)
      | (rw [no] <;> clear no yes <;> simp_all; done)
      | (refine yes ?_; clear no yes; simp_all; done)
      | trace_state
  · simp -dsimp -implicitDefEqProofs only [pick_nil, pick_cons, look_nil, look_cons, dropB_nil, dropB_cons, inD_nil, inD_cons, inE_nil, inE_cons, or_t_l, or_f_l, Nat.reduceBEq, Nat.reduceDiv, Nat.reduceAdd, beq_self_eq_true, Bool.false_eq_true, Bool.or_false, ↓reduceIte, Nat.reduceEqDiff, List.cons_append, List.nil_append]
    simp -dsimp -implicitDefEqProofs only [go_sem, ↓reduceIte, Nat.reduceEqDiff, Nat.reduceLT, Nat.reduceAdd, Nat.reduceMul, Nat.reduceLeDiff, Nat.le_refl, Int.natCast_zero, Int.toNat_natCast, Int.reduceToNat, nlt_len]
    rw [List.take_length] at hI
    repeat' (refine Br.intro (fun _ => ?_) (fun _ => ?_) <;> try simp -dsimp -implicitDefEqProofs only [go_sem, ↓reduceIte, Nat.reduceEqDiff, Nat.reduceLT, Nat.reduceAdd, Nat.reduceMul, Nat.reduceLeDiff, Nat.le_refl, Int.natCast_zero, Int.toNat_natCast, Int.reduceToNat, *])
    · have h4 : evsCode r es = 3 := by simp_all [evsCode]; omega
      simp [runEvents, h4]
    have h : evsCode r es = 0 := by simp_all [evsCode]; omega
    obtain ⟨h4, h5, h6⟩ := evsCode_zero h
    (refine Later.draw mixed rfl ?_; try simp -dsimp -implicitDefEqProofs only [go_sem, ↓reduceIte, Nat.reduceEqDiff, Nat.reduceLT, Nat.reduceAdd, Nat.reduceMul, Nat.reduceLeDiff, Nat.le_refl, Int.natCast_zero, Int.toNat_natCast, Int.reduceToNat, *])
    repeat' first
      | (with_reducible refine And.intro ?_ ?_)
      | (refine sCallX_one (c_l01Own _ h2) ?_; try simp -dsimp -implicitDefEqProofs only [go_sem, ↓reduceIte, Nat.reduceEqDiff, Nat.reduceLT, Nat.reduceAdd, Nat.reduceMul, Nat.reduceLeDiff, Nat.le_refl, Int.natCast_zero, Int.toNat_natCast, Int.reduceToNat, *])
    all_goals try (first | omega | rfl | (simp; done))
    refine Later.upR [1, 4, 8] [43, 52, 58] [8, 33, 40000, 59000, 59001] es.length (fun _ => True) (fun i => [(10, eI i), (9, eI (runEv r (es.take i)).2)])
      (fun i => [(8, .box 0 [.ref 33 1 0 r.tags.length, .ref 40000 0 0 r.roles.length]), (33, .row 1 ⟨3, true⟩ true ((runEv r (es.take i)).1.tags.map eTag)), (40000, .row 0 ⟨1, false⟩ true (r.roles.map eI))]) trivial (.here ?_) rfl (fun i hi _ => ?_) (fun _ => ?_)
    · simp -dsimp -implicitDefEqProofs only [go_sem, ↓reduceIte, Nat.reduceEqDiff, Nat.reduceLT, Nat.reduceAdd, Nat.reduceMul, Nat.reduceLeDiff, Nat.le_refl, Int.natCast_zero, Int.toNat_natCast, Int.reduceToNat]
      simp [runEv]
    · obtain ⟨p1, p2, p3, p4⟩ := runEv_inv r es i (by omega)
      have p5 := runEv_take r es i hi
      have hgi := get_some hi
      have he : isEv r es[i] = true := h5 _ (List.getElem_mem hi)
      generalize hT : runEv r (es.take i) = p at p1 p2 p3 p4 p5
      have hev : isEv ⟨p.1.tags, r.roles⟩ es[i] = true := by rw [isEv_eq _ _ _ p2]; exact he
      have hout : (⟨p.1.tags, r.roles⟩ : RegM) = p.1 := by rw [← p1]
      have ht : (p.1.tags.map eTag).take r.tags.length = p.1.tags.map eTag := by rw [← p2, take_map_len]
      simp -dsimp -implicitDefEqProofs only [pick_nil, pick_cons, look_nil, look_cons, dropB_nil, dropB_cons, inD_nil, inD_cons, inE_nil, inE_cons, or_t_l, or_f_l, Nat.reduceBEq, Nat.reduceDiv, Nat.reduceAdd, beq_self_eq_true, Bool.false_eq_true, Bool.or_false, ↓reduceIte, Nat.reduceEqDiff, List.cons_append, List.nil_append]
      rw [p5]
      simp -dsimp -implicitDefEqProofs only [go_sem, ↓reduceIte, Nat.reduceEqDiff, Nat.reduceLT, Nat.reduceAdd, Nat.reduceMul, Nat.reduceLeDiff, Nat.le_refl, Int.natCast_zero, Int.toNat_natCast, Int.reduceToNat, lt_len hi, get_some hi, ht, hT, p2]
      (refine Later.draw mixed rfl ?_; try simp -dsimp -implicitDefEqProofs only [go_sem, ↓reduceIte, Nat.reduceEqDiff, Nat.reduceLT, Nat.reduceAdd, Nat.reduceMul, Nat.reduceLeDiff, Nat.le_refl, Int.natCast_zero, Int.toNat_natCast, Int.reduceToNat, *])
      try simp -dsimp -implicitDefEqProofs only [go_sem, ↓reduceIte, Nat.reduceEqDiff, Nat.reduceLT, Nat.reduceAdd, Nat.reduceMul, Nat.reduceLeDiff, Nat.le_refl, Int.natCast_zero, Int.toNat_natCast, Int.reduceToNat, get_some hi, ht]
      repeat' (with_reducible refine And.intro ?_ ?_)
      all_goals try omega
      refine sCallX_one (c_l30Can ⟨p.1.tags, r.roles⟩ es[i] hev) ?_
      simp -dsimp -implicitDefEqProofs only [go_sem, ↓reduceIte, Nat.reduceEqDiff, Nat.reduceLT, Nat.reduceAdd, Nat.reduceMul, Nat.reduceLeDiff, Nat.le_refl, Int.natCast_zero, Int.toNat_natCast, Int.reduceToNat]
      repeat' first
        | (refine Br.intro (fun _ => ?_) (fun _ => ?_) <;> try simp -dsimp -implicitDefEqProofs only [go_sem, ↓reduceIte, Nat.reduceEqDiff, Nat.reduceLT, Nat.reduceAdd, Nat.reduceMul, Nat.reduceLeDiff, Nat.le_refl, Int.natCast_zero, Int.toNat_natCast, Int.reduceToNat, *])
        | (with_reducible refine And.intro ?_ ?_)
        | (refine Later.draw mixed rfl ?_; try simp -dsimp -implicitDefEqProofs only [go_sem, ↓reduceIte, Nat.reduceEqDiff, Nat.reduceLT, Nat.reduceAdd, Nat.reduceMul, Nat.reduceLeDiff, Nat.le_refl, Int.natCast_zero, Int.toNat_natCast, Int.reduceToNat, *])
        | (refine sCallX_one (c_l30Apply ⟨p.1.tags, r.roles⟩ es[i] hev (by simpa [p2] using h1) h2) ?_; try simp -dsimp -implicitDefEqProofs only [go_sem, ↓reduceIte, Nat.reduceEqDiff, Nat.reduceLT, Nat.reduceAdd, Nat.reduceMul, Nat.reduceLeDiff, Nat.le_refl, Int.natCast_zero, Int.toNat_natCast, Int.reduceToNat, *])
      all_goals first
        | omega
        | rfl
        | (refine ⟨?_, ?_⟩ <;> omega)
        | (simp; done)
        | (refine .here ?_; simp -dsimp -implicitDefEqProofs only [go_sem, ↓reduceIte, Nat.reduceEqDiff, Nat.reduceLT, Nat.reduceAdd, Nat.reduceMul, Nat.reduceLeDiff, Nat.le_refl, Int.natCast_zero, Int.toNat_natCast, Int.reduceToNat]; simp_all [stepEv]; done)
        | (refine .two 59000 33 59001 40000 (by decide) (by decide) (by decide) (by decide) ?_; simp -dsimp -implicitDefEqProofs only [go_sem, ↓reduceIte, Nat.reduceEqDiff, Nat.reduceLT, Nat.reduceAdd, Nat.reduceMul, Nat.reduceLeDiff, Nat.le_refl, Int.natCast_zero, Int.toNat_natCast, Int.reduceToNat]; simp_all [stepEv, applyEv]; done)
        | trace_state
    · obtain ⟨p1, p2, p3, p4⟩ := runEv_inv r es es.length (by omega)
      rw [List.take_length] at p1 p2 p3 p4
      have ht : ((runEv r es).1.tags.map eTag).take r.tags.length = (runEv r es).1.tags.map eTag := by rw [← p2, take_map_len]
      simp -dsimp -implicitDefEqProofs only [pick_nil, pick_cons, look_nil, look_cons, dropB_nil, dropB_cons, inD_nil, inD_cons, inE_nil, inE_cons, or_t_l, or_f_l, Nat.reduceBEq, Nat.reduceDiv, Nat.reduceAdd, beq_self_eq_true, Bool.false_eq_true, Bool.or_false, ↓reduceIte, Nat.reduceEqDiff, List.cons_append, List.nil_append]
      simp -dsimp -implicitDefEqProofs only [go_sem, ↓reduceIte, Nat.reduceEqDiff, Nat.reduceLT, Nat.reduceAdd, Nat.reduceMul, Nat.reduceLeDiff, Nat.le_refl, Int.natCast_zero, Int.toNat_natCast, Int.reduceToNat, nlt_len, List.take_length, ht]
      repeat' (with_reducible refine And.intro ?_ ?_)
      all_goals first | omega | (refine ⟨?_, ?_⟩ <;> omega) | rfl | (simp; done) | (simp_all [runEvents]; done) | (simp_all [runEvents]; omega) | (simp_all [runEvents]; split <;> simp_all <;> omega) | trace_state
def applyEvent (r : RegM) (e : EvM) : RegM × Int := if evCode r e = 0 then (if canEv r e then (applyEv r e, 0) else (⟨[], []⟩, 5)) else (⟨[], []⟩, evCode r e)
theorem c_sApplyEvent (r : RegM) (e : EvM) (h1 : r.tags.length ≤ 1048576) (h2 : r.roles.length ≤ 1048576) : Fn Try.prog 14 [eReg r, eEv e] true (· = .tup [eReg (applyEvent r e).1, eI (applyEvent r e).2]) := by
  refine Fn.of_vcN 25 [.cell 4 40, .tmp 5] Try.func14 rfl rfl rfl rfl rfl (of_decide_eq_true rfl) ?_
  simp -dsimp -implicitDefEqProofs only [go_sem, ↓reduceIte, Nat.reduceEqDiff, Nat.reduceLT, Nat.reduceAdd, Nat.reduceMul, Nat.reduceLeDiff, Nat.le_refl, Int.natCast_zero, Int.toNat_natCast, Int.reduceToNat]
  repeat' first
    | (with_reducible refine And.intro ?_ ?_)
    | (refine sCallT_one (c_l30Code _ _ h1 h2) ?_; try simp -dsimp -implicitDefEqProofs only [go_sem, ↓reduceIte, Nat.reduceEqDiff, Nat.reduceLT, Nat.reduceAdd, Nat.reduceMul, Nat.reduceLeDiff, Nat.le_refl, Int.natCast_zero, Int.toNat_natCast, Int.reduceToNat, *])
  by_cases h : evCode r e = 0
  · obtain ⟨h3, h4⟩ := evCode_zero h
    have h5 : (if isReg r = true then if isEv r e = true then (0 : Int) else 2 else 1) = 0 := h
    rw [h5]
    simp -dsimp -implicitDefEqProofs only [go_sem, ↓reduceIte, Nat.reduceEqDiff, Nat.reduceLT, Nat.reduceAdd, Nat.reduceMul, Nat.reduceLeDiff, Nat.le_refl, Int.natCast_zero, Int.toNat_natCast, Int.reduceToNat]
    refine sCallT_one (c_l30Can _ _ h4) ?_
    simp -dsimp -implicitDefEqProofs only [go_sem, ↓reduceIte, Nat.reduceEqDiff, Nat.reduceLT, Nat.reduceAdd, Nat.reduceMul, Nat.reduceLeDiff, Nat.le_refl, Int.natCast_zero, Int.toNat_natCast, Int.reduceToNat]
    repeat' first
      | (refine Br.intro (fun _ => ?_) (fun _ => ?_) <;> try simp -dsimp -implicitDefEqProofs only [go_sem, ↓reduceIte, Nat.reduceEqDiff, Nat.reduceLT, Nat.reduceAdd, Nat.reduceMul, Nat.reduceLeDiff, Nat.le_refl, Int.natCast_zero, Int.toNat_natCast, Int.reduceToNat, *])
      | (with_reducible refine And.intro ?_ ?_)
      | (refine sCallT_one (c_l30Apply _ _ h4 h1 h2) ?_; try simp -dsimp -implicitDefEqProofs only [go_sem, ↓reduceIte, Nat.reduceEqDiff, Nat.reduceLT, Nat.reduceAdd, Nat.reduceMul, Nat.reduceLeDiff, Nat.le_refl, Int.natCast_zero, Int.toNat_natCast, Int.reduceToNat, *])
    all_goals first | omega | (refine ⟨?_, ?_⟩ <;> omega) | rfl | (simp; done) | (simp_all [applyEvent]; done) | (simp_all [applyEvent]; omega) | (simp_all [applyEvent]; split <;> simp_all <;> omega) | trace_state
  · have h5 : (if isReg r = true then if isEv r e = true then (0 : Int) else 2 else 1) = evCode r e := rfl
    rw [h5]
    have h6 : (evCode r e == 0) = false := by simpa using h
    have h7 : (evCode r e != 0) = true := by simpa using h
    simp -dsimp -implicitDefEqProofs only [go_sem, ↓reduceIte, Nat.reduceEqDiff, Nat.reduceLT, Nat.reduceAdd, Nat.reduceMul, Nat.reduceLeDiff, Nat.le_refl, Int.natCast_zero, Int.toNat_natCast, Int.reduceToNat, h6, h7]
    simp [applyEvent, h]
theorem runEvents_one (r : RegM) (e : EvM) : runEvents r [e] = if evCode r e = 0 then (if canEv r e then (applyEv r e, 0, 0) else (r, 1, 0)) else (⟨[], []⟩, 0, evCode r e) := by
  rw [runEvents, evsCode_one]
  simp only [runEv, List.foldl_cons, List.foldl_nil, stepEv]
  split
  · split <;> simp_all
  · rfl
theorem c_iApplyEvent (r : RegM) (e : EvM) (h1 : r.tags.length ≤ 1048576) (h2 : r.roles.length ≤ 1048576) : Fn Try.prog 13 [eReg r, eEv e] true (· = .tup [eReg (applyEvent r e).1, eI (applyEvent r e).2]) := by
  refine Fn.of_vcN 25 [.cell 4 40, .tmp 5] Try.func13 rfl rfl rfl rfl rfl (of_decide_eq_true rfl) ?_
  simp -dsimp -implicitDefEqProofs only [go_sem, ↓reduceIte, Nat.reduceEqDiff, Nat.reduceLT, Nat.reduceAdd, Nat.reduceMul, Nat.reduceLeDiff, Nat.le_refl, Int.natCast_zero, Int.toNat_natCast, Int.reduceToNat]
  repeat' first
    | (with_reducible refine And.intro ?_ ?_)
    | (refine sCallT_one (c_iRunEvents r [e] h1 h2 (by simp)) ?_; try simp -dsimp -implicitDefEqProofs only [go_sem, ↓reduceIte, Nat.reduceEqDiff, Nat.reduceLT, Nat.reduceAdd, Nat.reduceMul, Nat.reduceLeDiff, Nat.le_refl, Int.natCast_zero, Int.toNat_natCast, Int.reduceToNat, *])
  all_goals try (simp; done)
  by_cases h : evCode r e = 0
  · by_cases hc : canEv r e = true
    · rw [runEvents_one, if_pos h, if_pos hc]
      simp -dsimp -implicitDefEqProofs only [go_sem, ↓reduceIte, Nat.reduceEqDiff, Nat.reduceLT, Nat.reduceAdd, Nat.reduceMul, Nat.reduceLeDiff, Nat.le_refl, Int.natCast_zero, Int.toNat_natCast, Int.reduceToNat]
      repeat' first
        | (refine Br.intro (fun _ => ?_) (fun _ => ?_) <;> try simp -dsimp -implicitDefEqProofs only [go_sem, ↓reduceIte, Nat.reduceEqDiff, Nat.reduceLT, Nat.reduceAdd, Nat.reduceMul, Nat.reduceLeDiff, Nat.le_refl, Int.natCast_zero, Int.toNat_natCast, Int.reduceToNat, *])
        | (with_reducible refine And.intro ?_ ?_)
      all_goals first | omega | (refine ⟨?_, ?_⟩ <;> omega) | rfl | (simp; done) | (simp_all [applyEvent]; done) | (simp_all [applyEvent]; omega) | (simp_all [applyEvent]; split <;> simp_all <;> omega) | trace_state
    · rw [runEvents_one, if_pos h, if_neg hc]
      simp -dsimp -implicitDefEqProofs only [go_sem, ↓reduceIte, Nat.reduceEqDiff, Nat.reduceLT, Nat.reduceAdd, Nat.reduceMul, Nat.reduceLeDiff, Nat.le_refl, Int.natCast_zero, Int.toNat_natCast, Int.reduceToNat]
      repeat' first
        | (refine Br.intro (fun _ => ?_) (fun _ => ?_) <;> try simp -dsimp -implicitDefEqProofs only [go_sem, ↓reduceIte, Nat.reduceEqDiff, Nat.reduceLT, Nat.reduceAdd, Nat.reduceMul, Nat.reduceLeDiff, Nat.le_refl, Int.natCast_zero, Int.toNat_natCast, Int.reduceToNat, *])
        | (with_reducible refine And.intro ?_ ?_)
      all_goals first | omega | (refine ⟨?_, ?_⟩ <;> omega) | rfl | (simp; done) | (simp_all [applyEvent]; done) | (simp_all [applyEvent]; omega) | (simp_all [applyEvent]; split <;> simp_all <;> omega) | trace_state
  · rw [runEvents_one, if_neg h]
    have h7 : (evCode r e != 0) = true := by simpa using h
    simp -dsimp -implicitDefEqProofs only [go_sem, ↓reduceIte, Nat.reduceEqDiff, Nat.reduceLT, Nat.reduceAdd, Nat.reduceMul, Nat.reduceLeDiff, Nat.le_refl, Int.natCast_zero, Int.toNat_natCast, Int.reduceToNat, h7]
    simp [applyEvent, h]
end Go.Vc
