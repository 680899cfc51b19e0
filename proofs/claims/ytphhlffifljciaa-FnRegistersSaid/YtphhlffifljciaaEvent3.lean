/-
  Events run one behind the other.
-/
import Derived.Test.YtphhlffifljciaaEvent2
set_option linter.unusedVariables false
set_option linter.unusedSimpArgs false
set_option linter.unnecessarySimpa false
namespace Go.Vc
open Go.Proofs
set_option maxRecDepth 100000
def stepEv (p : RegM × Int) (e : EvM) : RegM × Int := if canEv p.1 e then (applyEv p.1 e, p.2) else (p.1, p.2 + 1)
def runEv (r : RegM) (es : List EvM) : RegM × Int := es.foldl stepEv (r, 0)
theorem runEv_snoc (r : RegM) (es : List EvM) (e : EvM) : runEv r (es ++ [e]) = stepEv (runEv r es) e := by simp [runEv]
theorem runEv_take (r : RegM) (es : List EvM) (i : Nat) (h : i < es.length) : runEv r (es.take (i + 1)) = stepEv (runEv r (es.take i)) es[i] := by
  rw [List.take_succ_eq_append_getElem h, runEv_snoc]
theorem runEv_inv (r : RegM) (es : List EvM) (i : Nat) (h : i ≤ es.length) : (runEv r (es.take i)).1.roles = r.roles ∧ (runEv r (es.take i)).1.tags.length = r.tags.length ∧ 0 ≤ (runEv r (es.take i)).2 ∧ (runEv r (es.take i)).2 ≤ i := by
  induction i with
  | zero => simp [runEv]
  | succ i ih =>
    have ih := ih (by omega)
    rw [runEv_take r es i (by omega)]
    unfold stepEv
    split
    · simp only [applyEv, List.length_set]; exact ⟨ih.1, ih.2.1, ih.2.2.1, by omega⟩
    · exact ⟨ih.1, ih.2.1, by omega, by simp; omega⟩
def runEvents (r : RegM) (es : List EvM) : RegM × Int × Int := if evsCode r es = 0 then ((runEv r es).1, (runEv r es).2, 0) else (⟨[], []⟩, 0, evsCode r es)
theorem evsCode_zero {r : RegM} {es : List EvM} (h : evsCode r es = 0) : isReg r = true ∧ (∀ e ∈ es, isEv r e = true) ∧ es.length ≤ 60 := by
  unfold evsCode at h
  split at h
  · split at h
    · split at h
      · omega
      · rename_i h1 h2 h3; exact ⟨h1, by simpa using h2, by omega⟩
    · omega
  · omega
theorem c_CloneT (xs : List TagM) (h : xs.length ≤ 1048576) : Fn Try.prog 60 [eTags xs] true (· = eTags xs) := by
  refine Fn.of_vcN 8 [.tmp 2] Try.func60 rfl rfl rfl rfl rfl (of_decide_eq_true rfl) ?_
  simp -dsimp -implicitDefEqProofs only [go_sem, ↓reduceIte, Nat.reduceEqDiff, Nat.reduceLT, Nat.reduceAdd, Nat.reduceMul, Nat.reduceLeDiff, Nat.le_refl, Int.natCast_zero, Int.toNat_natCast, Int.reduceToNat]
  intro c hc
  repeat' first
    | (refine Br.intro (fun _ => ?_) (fun _ => ?_) <;> try simp -dsimp -implicitDefEqProofs only [go_sem, ↓reduceIte, Nat.reduceEqDiff, Nat.reduceLT, Nat.reduceAdd, Nat.reduceMul, Nat.reduceLeDiff, Nat.le_refl, Int.natCast_zero, Int.toNat_natCast, Int.reduceToNat, *])
    | (with_reducible refine And.intro ?_ ?_)
  all_goals first | omega | (refine ⟨?_, ?_⟩ <;> omega) | rfl | (simp; done) | (simp_all []; done) | (simp_all []; omega) | (simp_all []; split <;> simp_all <;> omega) | trace_state
theorem roleOf_eq (T : List TagM) (r : RegM) (e : EvM) : roleOf ⟨T, r.roles⟩ e = roleOf r e := rfl
theorem isEv_eq (T : List TagM) (r : RegM) (e : EvM) (h : T.length = r.tags.length) : isEv ⟨T, r.roles⟩ e = isEv r e := by simp [isEv, h]
theorem c_iRunEvents (r : RegM) (es : List EvM) (h1 : r.tags.length ≤ 1048576) (h2 : r.roles.length ≤ 1048576) (h3 : es.length ≤ 1048576) : Fn Try.prog 24 [eReg r, eEvs es] true (· = .tup [eReg (runEvents r es).1, eI (runEvents r es).2.1, eI (runEvents r es).2.2]) := by
  refine Fn.of_vcN 53 [.cell 4 40, .tmp 5, .tmp 6] Try.func24 rfl rfl rfl rfl rfl (of_decide_eq_true rfl) ?_
  simp -dsimp -implicitDefEqProofs only [go_sem, ↓reduceIte, Nat.reduceEqDiff, Nat.reduceLT, Nat.reduceAdd, Nat.reduceMul, Nat.reduceLeDiff, Nat.le_refl, Int.natCast_zero, Int.toNat_natCast, Int.reduceToNat]
  refine sCallT_one (c_eventCode _ _ h1 h2 h3) ?_
  simp -dsimp -implicitDefEqProofs only [go_sem, ↓reduceIte, Nat.reduceEqDiff, Nat.reduceLT, Nat.reduceAdd, Nat.reduceMul, Nat.reduceLeDiff, Nat.le_refl, Int.natCast_zero, Int.toNat_natCast, Int.reduceToNat]
  by_cases h : evsCode r es = 0
  rotate_left
  · refine Br.pos (by simpa using h) ?_
    simp -dsimp -implicitDefEqProofs only [go_sem, ↓reduceIte, Nat.reduceEqDiff, Nat.reduceLT, Nat.reduceAdd, Nat.reduceMul, Nat.reduceLeDiff, Nat.le_refl, Int.natCast_zero, Int.toNat_natCast, Int.reduceToNat]
    simp [runEvents, h]
  obtain ⟨h4, h5, h6⟩ := evsCode_zero h
  rw [h]
  simp -dsimp -implicitDefEqProofs only [go_sem, ↓reduceIte, Nat.reduceEqDiff, Nat.reduceLT, Nat.reduceAdd, Nat.reduceMul, Nat.reduceLeDiff, Nat.le_refl, Int.natCast_zero, Int.toNat_natCast, Int.reduceToNat]
  (refine Later.draw mixed rfl ?_; try simp -dsimp -implicitDefEqProofs only [go_sem, ↓reduceIte, Nat.reduceEqDiff, Nat.reduceLT, Nat.reduceAdd, Nat.reduceMul, Nat.reduceLeDiff, Nat.le_refl, Int.natCast_zero, Int.toNat_natCast, Int.reduceToNat, *])
  repeat' first
    | (with_reducible refine And.intro ?_ ?_)
    | (refine sCallX_one (c_CloneT _ h1) ?_; try simp -dsimp -implicitDefEqProofs only [go_sem, ↓reduceIte, Nat.reduceEqDiff, Nat.reduceLT, Nat.reduceAdd, Nat.reduceMul, Nat.reduceLeDiff, Nat.le_refl, Int.natCast_zero, Int.toNat_natCast, Int.reduceToNat, *])
    | (refine sCallX_one (c_CloneI _ h2) ?_; try simp -dsimp -implicitDefEqProofs only [go_sem, ↓reduceIte, Nat.reduceEqDiff, Nat.reduceLT, Nat.reduceAdd, Nat.reduceMul, Nat.reduceLeDiff, Nat.le_refl, Int.natCast_zero, Int.toNat_natCast, Int.reduceToNat, *])
  all_goals try (first | omega | rfl | (simp; done))
  refine Later.up [4, 8, 26, 27] [11, 34, 46] [22000] es.length (fun _ => True) (fun i => [(28, eI i), (9, eI (runEv r (es.take i)).2)]) (fun i => [(22000, .row 0 ⟨3, true⟩ true ((runEv r (es.take i)).1.tags.map eTag))]) trivial ?_ rfl (fun i hi _ => ?_) (fun _ => ?_)
  · simp -dsimp -implicitDefEqProofs only [go_sem, ↓reduceIte, Nat.reduceEqDiff, Nat.reduceLT, Nat.reduceAdd, Nat.reduceMul, Nat.reduceLeDiff, Nat.le_refl, Int.natCast_zero, Int.toNat_natCast, Int.reduceToNat]
    simp [runEv]
  · obtain ⟨p1, p2, p3, p4⟩ := runEv_inv r es i (by omega)
    have p5 := runEv_take r es i hi
    have he : isEv r es[i] = true := h5 _ (List.getElem_mem hi)
    generalize hT : runEv r (es.take i) = p at p1 p2 p3 p4 p5
    have hev : isEv ⟨p.1.tags, r.roles⟩ es[i] = true := by rw [isEv_eq _ _ _ p2]; exact he
    have hout : (⟨p.1.tags, r.roles⟩ : RegM) = p.1 := by rw [← p1]
    have ht : (p.1.tags.map eTag).take r.tags.length = p.1.tags.map eTag := by rw [← p2, take_map_len]
    have hg := tag_get hev
    simp only at hg
    have hin := isEv_in he
    simp -dsimp -implicitDefEqProofs only [pick_nil, pick_cons, look_nil, look_cons, dropB_nil, dropB_cons, inD_nil, inD_cons, inE_nil, inE_cons, or_t_l, or_f_l, Nat.reduceBEq, Nat.reduceDiv, Nat.reduceAdd, beq_self_eq_true, Bool.false_eq_true, Bool.or_false, ↓reduceIte, Nat.reduceEqDiff, List.cons_append, List.nil_append]
    rw [p5]
    simp -dsimp -implicitDefEqProofs only [go_sem, ↓reduceIte, Nat.reduceEqDiff, Nat.reduceLT, Nat.reduceAdd, Nat.reduceMul, Nat.reduceLeDiff, Nat.le_refl, Int.natCast_zero, Int.toNat_natCast, Int.reduceToNat, lt_len hi, get_some hi, ht, hT, p2]
    repeat' first
      | (refine Br.intro (fun _ => ?_) (fun _ => ?_) <;> try simp -dsimp -implicitDefEqProofs only [go_sem, ↓reduceIte, Nat.reduceEqDiff, Nat.reduceLT, Nat.reduceAdd, Nat.reduceMul, Nat.reduceLeDiff, Nat.le_refl, Int.natCast_zero, Int.toNat_natCast, Int.reduceToNat, *])
      | (with_reducible refine And.intro ?_ ?_)
      | (refine sCallT_one (c_isPossible ⟨p.1.tags, r.roles⟩ es[i] (by rw [roleOf_eq]; exact roles_in h4 _ he) hev) ?_; try simp -dsimp -implicitDefEqProofs only [go_sem, ↓reduceIte, Nat.reduceEqDiff, Nat.reduceLT, Nat.reduceAdd, Nat.reduceMul, Nat.reduceLeDiff, Nat.le_refl, Int.natCast_zero, Int.toNat_natCast, Int.reduceToNat, *])
      | (refine Later.draw mixed rfl ?_; try simp -dsimp -implicitDefEqProofs only [go_sem, ↓reduceIte, Nat.reduceEqDiff, Nat.reduceLT, Nat.reduceAdd, Nat.reduceMul, Nat.reduceLeDiff, Nat.le_refl, Int.natCast_zero, Int.toNat_natCast, Int.reduceToNat, *])
      | (refine sCallX_one (c_apply _ _) ?_; try simp -dsimp -implicitDefEqProofs only [go_sem, ↓reduceIte, Nat.reduceEqDiff, Nat.reduceLT, Nat.reduceAdd, Nat.reduceMul, Nat.reduceLeDiff, Nat.le_refl, Int.natCast_zero, Int.toNat_natCast, Int.reduceToNat, *])
    all_goals first | omega | (refine ⟨?_, ?_⟩ <;> omega) | rfl | (simp; done) | (simp_all [stepEv, applyEv, List.map_set]; done) | (simp_all [stepEv, applyEv, List.map_set]; omega) | (simp_all [stepEv, applyEv, List.map_set]; split <;> simp_all <;> omega) | trace_state
  · obtain ⟨p1, p2, p3, p4⟩ := runEv_inv r es es.length (by omega)
    rw [List.take_length] at p1 p2 p3 p4
    have ht : ((runEv r es).1.tags.map eTag).take r.tags.length = (runEv r es).1.tags.map eTag := by rw [← p2, take_map_len]
    simp -dsimp -implicitDefEqProofs only [pick_nil, pick_cons, look_nil, look_cons, dropB_nil, dropB_cons, inD_nil, inD_cons, inE_nil, inE_cons, or_t_l, or_f_l, Nat.reduceBEq, Nat.reduceDiv, Nat.reduceAdd, beq_self_eq_true, Bool.false_eq_true, Bool.or_false, ↓reduceIte, Nat.reduceEqDiff, List.cons_append, List.nil_append]
    simp -dsimp -implicitDefEqProofs only [go_sem, ↓reduceIte, Nat.reduceEqDiff, Nat.reduceLT, Nat.reduceAdd, Nat.reduceMul, Nat.reduceLeDiff, Nat.le_refl, Int.natCast_zero, Int.toNat_natCast, Int.reduceToNat, nlt_len, List.take_length, ht]
    repeat' (with_reducible refine And.intro ?_ ?_)
    all_goals first | omega | (refine ⟨?_, ?_⟩ <;> omega) | rfl | (simp; done) | (simp_all [runEvents]; done) | (simp_all [runEvents]; omega) | (simp_all [runEvents]; split <;> simp_all <;> omega) | trace_state
end Go.Vc
