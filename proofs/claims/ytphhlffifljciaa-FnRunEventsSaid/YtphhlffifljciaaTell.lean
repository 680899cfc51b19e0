/-
  What is told of a register: tags with a person, states counted.
-/
import Derived.Test.YtphhlffifljciaaEvents
set_option linter.unusedVariables false
set_option linter.unusedSimpArgs false
set_option linter.unnecessarySimpa false
namespace Go.Vc
open Go.Proofs
set_option maxRecDepth 100000
def isW (t : TagM) (p : Int) : Bool := t.state == 1 && t.person == p
def tw (ts : List TagM) (p : Int) (i : Nat) : List Int := List.map (fun j : Nat => (j : Int)) ((List.range i).filter fun j => match ts[j]? with | some t => isW t p | none => false)
theorem tw_succ (ts : List TagM) (p : Int) (i : Nat) (h : i < ts.length) : tw ts p (i + 1) = if isW ts[i] p then tw ts p i ++ [(i : Int)] else tw ts p i := by
  simp only [tw, List.range_succ, List.filter_append, List.map_append]
  rw [List.filter_cons, List.getElem?_eq_getElem h]
  simp only []
  split <;> simp
theorem tw_len (ts : List TagM) (p : Int) (i : Nat) : (tw ts p i).length ≤ i := by
  rw [tw, List.length_map]
  exact Nat.le_trans (List.length_filter_le _ _) (by simp)
def tagsWith (r : RegM) (p : Int) : List Int × Int := if isReg r then (if isIn p 0 (r.roles.length - 1) then (tw r.tags p r.tags.length, 0) else ([], 2)) else ([], 1)
def cntStep (c : List Int) (t : TagM) : List Int := c.set t.state.toNat (c.getD t.state.toNat 0 + 1)
def cnt (ts : List TagM) : List Int := ts.foldl cntStep [0, 0, 0, 0]
theorem cnt_take (ts : List TagM) (i : Nat) (h : i < ts.length) : cnt (ts.take (i + 1)) = cntStep (cnt (ts.take i)) ts[i] := by
  rw [List.take_succ_eq_append_getElem h, cnt, List.foldl_append]; rfl
theorem cnt_inv (ts : List TagM) (i : Nat) (h : i ≤ ts.length) : (cnt (ts.take i)).length = 4 ∧ ∀ x ∈ cnt (ts.take i), 0 ≤ x ∧ x ≤ i := by
  induction i with
  | zero => simp [cnt]
  | succ i ih =>
    obtain ⟨h1, h2⟩ := ih (by omega)
    rw [cnt_take ts i (by omega), cntStep]
    refine ⟨by simp [h1], fun x hx => ?_⟩
    have hg : ∀ j, 0 ≤ (cnt (ts.take i)).getD j 0 ∧ (cnt (ts.take i)).getD j 0 ≤ i := by
      intro j
      by_cases hj : j < (cnt (ts.take i)).length
      · have := h2 _ (List.getElem_mem hj)
        simpa [List.getD_eq_getElem?_getD, hj] using this
      · rw [List.getD_eq_getElem?_getD, List.getElem?_eq_none (by omega)]; simp
    rcases List.mem_or_eq_of_mem_set hx with hx | hx
    · have := h2 x hx; omega
    · have := hg ts[i].state.toNat; omega
theorem cnt_nil : cnt [] = [0, 0, 0, 0] := rfl
attribute [irreducible] cnt
def countStates (r : RegM) : List Int × Int := if isReg r then (cnt r.tags, 0) else ([], 1)
theorem tag_state {r : RegM} (h : isReg r = true) {i : Nat} (hi : i < r.tags.length) : 0 ≤ r.tags[i].state ∧ r.tags[i].state ≤ 3 := by
  simp only [isReg, Bool.and_eq_true, List.all_eq_true] at h
  have := h.2 _ (List.getElem_mem hi)
  simp only [isTag, Bool.and_eq_true] at this
  have := this.2
  split at this
  · omega
  · split at this
    · omega
    · cases this
theorem c_sCountStates (r : RegM) : Fn Try.prog 28 [eReg r] true (· = .tup [eIs (countStates r).1, eI (countStates r).2]) := by
  refine Fn.of_vcN 29 [.tmp 2, .tmp 3] Try.func28 rfl rfl rfl rfl rfl (of_decide_eq_true rfl) ?_
  simp -dsimp -implicitDefEqProofs only [go_sem, ↓reduceIte, Nat.reduceEqDiff, Nat.reduceLT, Nat.reduceAdd, Nat.reduceMul, Nat.reduceLeDiff, Nat.le_refl, Int.natCast_zero, Int.toNat_natCast, Int.reduceToNat]
  repeat' first
    | (refine Br.intro (fun _ => ?_) (fun _ => ?_) <;> try simp -dsimp -implicitDefEqProofs only [go_sem, ↓reduceIte, Nat.reduceEqDiff, Nat.reduceLT, Nat.reduceAdd, Nat.reduceMul, Nat.reduceLeDiff, Nat.le_refl, Int.natCast_zero, Int.toNat_natCast, Int.reduceToNat, *])
    | (with_reducible refine And.intro ?_ ?_)
    | (refine sCallT_one (c_sIsRegister _) ?_; try simp -dsimp -implicitDefEqProofs only [go_sem, ↓reduceIte, Nat.reduceEqDiff, Nat.reduceLT, Nat.reduceAdd, Nat.reduceMul, Nat.reduceLeDiff, Nat.le_refl, Int.natCast_zero, Int.toNat_natCast, Int.reduceToNat, *])
  all_goals try (first | omega | (simp_all [countStates]; done))
  have hr : isReg r = true := by simp_all
  have h20 : r.tags.length ≤ 20 := by simp [isReg] at hr; omega
  refine Later.up [1, 4] [13] [9] r.tags.length (fun _ => True) (fun i => [(5, eI i)]) (fun i => [(9, .row 0 ⟨1, false⟩ true ((cnt (r.tags.take i)).map eI))]) trivial ?_ rfl (fun i hi _ => ?_) (fun _ => ?_)
  · simp -dsimp -implicitDefEqProofs only [go_sem, ↓reduceIte, Nat.reduceEqDiff, Nat.reduceLT, Nat.reduceAdd, Nat.reduceMul, Nat.reduceLeDiff, Nat.le_refl, Int.natCast_zero, Int.toNat_natCast, Int.reduceToNat]
    simp [cnt_nil]
  · have hs := tag_state hr hi
    obtain ⟨hl, hb⟩ := cnt_inv r.tags i (by omega)
    have hs2 := cnt_take r.tags i hi
    have hgi := get_some hi
    have hj : r.tags[i].state.toNat < (cnt (r.tags.take i)).length := by omega
    have hg : (cnt (r.tags.take i))[r.tags[i].state.toNat]? = some ((cnt (r.tags.take i)).getD r.tags[i].state.toNat 0) := by
      rw [List.getD_eq_getElem?_getD, List.getElem?_eq_getElem hj]; rfl
    have hb2 := hb _ (List.mem_of_getElem? hg)
    simp -dsimp -implicitDefEqProofs only [pick_nil, pick_cons, look_nil, look_cons, dropB_nil, dropB_cons, inD_nil, inD_cons, inE_nil, inE_cons, or_t_l, or_f_l, Nat.reduceBEq, Nat.reduceDiv, Nat.reduceAdd, beq_self_eq_true, Bool.false_eq_true, Bool.or_false, ↓reduceIte, Nat.reduceEqDiff, List.cons_append, List.nil_append]
    rw [hs2]
    simp -dsimp -implicitDefEqProofs only [go_sem, ↓reduceIte, Nat.reduceEqDiff, Nat.reduceLT, Nat.reduceAdd, Nat.reduceMul, Nat.reduceLeDiff, Nat.le_refl, Int.natCast_zero, Int.toNat_natCast, Int.reduceToNat, lt_len hi, get_some hi, hg]
    repeat' first
      | (refine Br.intro (fun _ => ?_) (fun _ => ?_) <;> try simp -dsimp -implicitDefEqProofs only [go_sem, ↓reduceIte, Nat.reduceEqDiff, Nat.reduceLT, Nat.reduceAdd, Nat.reduceMul, Nat.reduceLeDiff, Nat.le_refl, Int.natCast_zero, Int.toNat_natCast, Int.reduceToNat, *])
      | (with_reducible refine And.intro ?_ ?_)
    all_goals first | omega | (refine ⟨?_, ?_⟩ <;> omega) | rfl | (simp; done) | (rw [hl]; omega) | (rw [List.length_map, hl]; omega) | (rw [cntStep, List.map_set]; done) | trace_state
  · obtain ⟨hl, hb⟩ := cnt_inv r.tags r.tags.length (by omega)
    rw [List.take_length] at hl
    have ht : ((cnt r.tags).map eI).take 4 = (cnt r.tags).map eI := by rw [← hl, take_map_len]
    simp -dsimp -implicitDefEqProofs only [pick_nil, pick_cons, look_nil, look_cons, dropB_nil, dropB_cons, inD_nil, inD_cons, inE_nil, inE_cons, or_t_l, or_f_l, Nat.reduceBEq, Nat.reduceDiv, Nat.reduceAdd, beq_self_eq_true, Bool.false_eq_true, Bool.or_false, ↓reduceIte, Nat.reduceEqDiff, List.cons_append, List.nil_append]
    simp -dsimp -implicitDefEqProofs only [go_sem, ↓reduceIte, Nat.reduceEqDiff, Nat.reduceLT, Nat.reduceAdd, Nat.reduceMul, Nat.reduceLeDiff, Nat.le_refl, Int.natCast_zero, Int.toNat_natCast, Int.reduceToNat, nlt_len, List.take_length, ht]
    repeat' (with_reducible refine And.intro ?_ ?_)
    all_goals first | omega | (refine ⟨?_, ?_⟩ <;> omega) | rfl | (simp; done) | (simp_all [countStates]; done) | (simp_all [countStates]; omega) | (simp_all [countStates]; split <;> simp_all <;> omega) | trace_state
theorem c_iCountStates (r : RegM) (h1 : r.tags.length ≤ 1048576) (h2 : r.roles.length ≤ 1048576) : Fn Try.prog 27 [eReg r] true (· = .tup [eIs (countStates r).1, eI (countStates r).2]) := by
  refine Fn.of_vcN 27 [.tmp 2, .tmp 3] Try.func27 rfl rfl rfl rfl rfl (of_decide_eq_true rfl) ?_
  simp -dsimp -implicitDefEqProofs only [go_sem, ↓reduceIte, Nat.reduceEqDiff, Nat.reduceLT, Nat.reduceAdd, Nat.reduceMul, Nat.reduceLeDiff, Nat.le_refl, Int.natCast_zero, Int.toNat_natCast, Int.reduceToNat]
  repeat' first
    | (refine Br.intro (fun _ => ?_) (fun _ => ?_) <;> try simp -dsimp -implicitDefEqProofs only [go_sem, ↓reduceIte, Nat.reduceEqDiff, Nat.reduceLT, Nat.reduceAdd, Nat.reduceMul, Nat.reduceLeDiff, Nat.le_refl, Int.natCast_zero, Int.toNat_natCast, Int.reduceToNat, *])
    | (with_reducible refine And.intro ?_ ?_)
    | (refine sCallT_one (c_iIsRegister _ h1 h2) ?_; try simp -dsimp -implicitDefEqProofs only [go_sem, ↓reduceIte, Nat.reduceEqDiff, Nat.reduceLT, Nat.reduceAdd, Nat.reduceMul, Nat.reduceLeDiff, Nat.le_refl, Int.natCast_zero, Int.toNat_natCast, Int.reduceToNat, *])
  all_goals try (first | omega | (simp_all [countStates]; done))
  have hr : isReg r = true := by simp_all
  have h20 : r.tags.length ≤ 20 := by simp [isReg] at hr; omega
  refine Later.up [4, 12, 13] [6] [10] r.tags.length (fun _ => True) (fun i => [(14, eI i)]) (fun i => [(10, .row 0 ⟨1, false⟩ true ((cnt (r.tags.take i)).map eI))]) trivial ?_ rfl (fun i hi _ => ?_) (fun _ => ?_)
  · simp -dsimp -implicitDefEqProofs only [go_sem, ↓reduceIte, Nat.reduceEqDiff, Nat.reduceLT, Nat.reduceAdd, Nat.reduceMul, Nat.reduceLeDiff, Nat.le_refl, Int.natCast_zero, Int.toNat_natCast, Int.reduceToNat]
    simp [cnt_nil]
  · have hs := tag_state hr hi
    obtain ⟨hl, hb⟩ := cnt_inv r.tags i (by omega)
    have hs2 := cnt_take r.tags i hi
    have hgi := get_some hi
    have hj : r.tags[i].state.toNat < (cnt (r.tags.take i)).length := by omega
    have hg : (cnt (r.tags.take i))[r.tags[i].state.toNat]? = some ((cnt (r.tags.take i)).getD r.tags[i].state.toNat 0) := by
      rw [List.getD_eq_getElem?_getD, List.getElem?_eq_getElem hj]; rfl
    have hb2 := hb _ (List.mem_of_getElem? hg)
    simp -dsimp -implicitDefEqProofs only [pick_nil, pick_cons, look_nil, look_cons, dropB_nil, dropB_cons, inD_nil, inD_cons, inE_nil, inE_cons, or_t_l, or_f_l, Nat.reduceBEq, Nat.reduceDiv, Nat.reduceAdd, beq_self_eq_true, Bool.false_eq_true, Bool.or_false, ↓reduceIte, Nat.reduceEqDiff, List.cons_append, List.nil_append]
    rw [hs2]
    simp -dsimp -implicitDefEqProofs only [go_sem, ↓reduceIte, Nat.reduceEqDiff, Nat.reduceLT, Nat.reduceAdd, Nat.reduceMul, Nat.reduceLeDiff, Nat.le_refl, Int.natCast_zero, Int.toNat_natCast, Int.reduceToNat, lt_len hi, get_some hi, hg]
    repeat' first
      | (refine Br.intro (fun _ => ?_) (fun _ => ?_) <;> try simp -dsimp -implicitDefEqProofs only [go_sem, ↓reduceIte, Nat.reduceEqDiff, Nat.reduceLT, Nat.reduceAdd, Nat.reduceMul, Nat.reduceLeDiff, Nat.le_refl, Int.natCast_zero, Int.toNat_natCast, Int.reduceToNat, *])
      | (with_reducible refine And.intro ?_ ?_)
    all_goals first | omega | (refine ⟨?_, ?_⟩ <;> omega) | rfl | (simp; done) | (rw [hl]; omega) | (rw [List.length_map, hl]; omega) | (rw [cntStep, List.map_set]; done) | trace_state
  · obtain ⟨hl, hb⟩ := cnt_inv r.tags r.tags.length (by omega)
    rw [List.take_length] at hl
    have ht : ((cnt r.tags).map eI).take 4 = (cnt r.tags).map eI := by rw [← hl, take_map_len]
    simp -dsimp -implicitDefEqProofs only [pick_nil, pick_cons, look_nil, look_cons, dropB_nil, dropB_cons, inD_nil, inD_cons, inE_nil, inE_cons, or_t_l, or_f_l, Nat.reduceBEq, Nat.reduceDiv, Nat.reduceAdd, beq_self_eq_true, Bool.false_eq_true, Bool.or_false, ↓reduceIte, Nat.reduceEqDiff, List.cons_append, List.nil_append]
    simp -dsimp -implicitDefEqProofs only [go_sem, ↓reduceIte, Nat.reduceEqDiff, Nat.reduceLT, Nat.reduceAdd, Nat.reduceMul, Nat.reduceLeDiff, Nat.le_refl, Int.natCast_zero, Int.toNat_natCast, Int.reduceToNat, nlt_len, List.take_length, ht]
    repeat' (with_reducible refine And.intro ?_ ?_)
    all_goals first | omega | (refine ⟨?_, ?_⟩ <;> omega) | rfl | (simp; done) | (simp_all [countStates]; done) | (simp_all [countStates]; omega) | (simp_all [countStates]; split <;> simp_all <;> omega) | trace_state
end Go.Vc
