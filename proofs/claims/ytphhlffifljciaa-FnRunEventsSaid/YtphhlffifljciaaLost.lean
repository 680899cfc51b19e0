/-
  Contracts: the lost rows of a register.
-/
import Derived.Test.YtphhlffifljciaaSortI
import Derived.Test.YtphhlffifljciaaMarkReg
set_option linter.unusedVariables false
set_option linter.unusedSimpArgs false
set_option linter.unnecessarySimpa false
namespace Go.Vc
open Go.Proofs
set_option maxRecDepth 100000
def lostN (ts : List TagM) (i : Nat) : List Int := ((ts.take i).filter fun t => t.state == 2).map fun t => t.row
theorem lostN_zero (ts : List TagM) : lostN ts 0 = [] := rfl
theorem lostN_len (ts : List TagM) (i : Nat) : (lostN ts i).length ≤ i := by
  rw [lostN, List.length_map]
  exact Nat.le_trans (List.length_filter_le _ _) (by simp; omega)
theorem lostN_succ (ts : List TagM) (i : Nat) (h : i < ts.length) : lostN ts (i + 1) = if (ts[i].state == 2) = true then lostN ts i ++ [ts[i].row] else lostN ts i := by
  rw [lostN, List.take_succ_eq_append_getElem h, List.filter_append, List.map_append, List.filter_cons]
  split <;> simp [lostN]
def lostRows (r : RegM) : List Int × Int := if isReg r then (rowsL (lostN r.tags r.tags.length), 0) else ([], 1)
theorem lostN_nn {r : RegM} (h : isReg r = true) : ∀ x ∈ lostN r.tags r.tags.length, 0 ≤ x := by
  intro x hx
  simp only [lostN, List.take_length, List.mem_map, List.mem_filter] at hx
  obtain ⟨t, ⟨h1, _⟩, rfl⟩ := hx
  simp only [isReg, Bool.and_eq_true, List.all_eq_true] at h
  have := h.2 t h1
  simp only [isTag, Bool.and_eq_true, isIn, decide_eq_true_eq] at this
  omega
attribute [irreducible] lostN
theorem c_sLostRows (r : RegM) (h1 : r.tags.length ≤ 1048576) (h2 : r.roles.length ≤ 1048576) : Fn Try.prog 30 [eReg r] true (· = .tup [eIs (lostRows r).1, eI (lostRows r).2]) := by
  refine Fn.of_vcN 35 [.tmp 2, .tmp 3] Try.func30 rfl rfl rfl rfl rfl (of_decide_eq_true rfl) ?_
  rcases hb : isReg r with _ | _
  · simp -dsimp -implicitDefEqProofs only [go_sem, ↓reduceIte, Nat.reduceEqDiff, Nat.reduceLT, Nat.reduceAdd, Nat.reduceMul, Nat.reduceLeDiff, Nat.le_refl, Int.natCast_zero, Int.toNat_natCast, Int.reduceToNat]
    repeat' first
      | (refine Br.intro (fun _ => ?_) (fun _ => ?_) <;> try simp -dsimp -implicitDefEqProofs only [go_sem, ↓reduceIte, Nat.reduceEqDiff, Nat.reduceLT, Nat.reduceAdd, Nat.reduceMul, Nat.reduceLeDiff, Nat.le_refl, Int.natCast_zero, Int.toNat_natCast, Int.reduceToNat, *])
      | (with_reducible refine And.intro ?_ ?_)
      | (refine sCallT_one (c_sIsRegister r) ?_; try simp -dsimp -implicitDefEqProofs only [go_sem, ↓reduceIte, Nat.reduceEqDiff, Nat.reduceLT, Nat.reduceAdd, Nat.reduceMul, Nat.reduceLeDiff, Nat.le_refl, Int.natCast_zero, Int.toNat_natCast, Int.reduceToNat, *])
    all_goals first
      | omega
      | (simp_all [lostRows]; done)
      | trace_state
  have hF : lostRows r = (rowsL (lostN r.tags r.tags.length), 0) := by rw [lostRows, if_pos hb]
  have hnn := lostN_nn hb
  rw [hF]
  clear hF
  simp -dsimp -implicitDefEqProofs only [go_sem, ↓reduceIte, Nat.reduceEqDiff, Nat.reduceLT, Nat.reduceAdd, Nat.reduceMul, Nat.reduceLeDiff, Nat.le_refl, Int.natCast_zero, Int.toNat_natCast, Int.reduceToNat]
  repeat' first
    | (refine Br.intro (fun _ => ?_) (fun _ => ?_) <;> try simp -dsimp -implicitDefEqProofs only [go_sem, ↓reduceIte, Nat.reduceEqDiff, Nat.reduceLT, Nat.reduceAdd, Nat.reduceMul, Nat.reduceLeDiff, Nat.le_refl, Int.natCast_zero, Int.toNat_natCast, Int.reduceToNat, *])
    | (with_reducible refine And.intro ?_ ?_)
    | (refine sCallT_one (c_sIsRegister r) ?_; try simp -dsimp -implicitDefEqProofs only [go_sem, ↓reduceIte, Nat.reduceEqDiff, Nat.reduceLT, Nat.reduceAdd, Nat.reduceMul, Nat.reduceLeDiff, Nat.le_refl, Int.natCast_zero, Int.toNat_natCast, Int.reduceToNat, *])
  all_goals try (first | omega | (simp; done) | (simp_all; done))
  refine Later.up [1] [13, 31, 32] [9] r.tags.length (fun _ => True) (fun i => [(5, eI i), (4, .ref 9 0 0 (lostN r.tags i).length)]) (fun i => [(9, .row 0 ⟨1, false⟩ true ((lostN r.tags i).map eI))]) trivial ?_ rfl (fun i hi _ => ?_) (fun _ => ?_)
  · simp -dsimp -implicitDefEqProofs only [go_sem, ↓reduceIte, Nat.reduceEqDiff, Nat.reduceLT, Nat.reduceAdd, Nat.reduceMul, Nat.reduceLeDiff, Nat.le_refl, Int.natCast_zero, Int.toNat_natCast, Int.reduceToNat, lostN_zero]
    all_goals simp
  · have gi := get_some hi
    have li := lt_len hi
    have hl := lostN_len r.tags i
    have hs := lostN_succ r.tags i hi
    clear hnn hb
    simp -dsimp -implicitDefEqProofs only [pick_nil, pick_cons, look_nil, look_cons, dropB_nil, dropB_cons, inD_nil, inD_cons, inE_nil, inE_cons, or_t_l, or_f_l, Nat.reduceBEq, Nat.reduceDiv, Nat.reduceAdd, beq_self_eq_true, Bool.false_eq_true, Bool.or_false, ↓reduceIte, Nat.reduceEqDiff, List.cons_append, List.nil_append]
    rw [hs]
    clear hs
    simp -dsimp -implicitDefEqProofs only [go_sem, ↓reduceIte, Nat.reduceEqDiff, Nat.reduceLT, Nat.reduceAdd, Nat.reduceMul, Nat.reduceLeDiff, Nat.le_refl, Int.natCast_zero, Int.toNat_natCast, Int.reduceToNat, li, gi]
    repeat' first
      | (refine Br.intro (fun _ => ?_) (fun _ => ?_) <;> try simp -dsimp -implicitDefEqProofs only [go_sem, ↓reduceIte, Nat.reduceEqDiff, Nat.reduceLT, Nat.reduceAdd, Nat.reduceMul, Nat.reduceLeDiff, Nat.le_refl, Int.natCast_zero, Int.toNat_natCast, Int.reduceToNat, *])
      | (with_reducible refine And.intro ?_ ?_)
      | (refine Later.draw mixed rfl ?_; try simp -dsimp -implicitDefEqProofs only [go_sem, ↓reduceIte, Nat.reduceEqDiff, Nat.reduceLT, Nat.reduceAdd, Nat.reduceMul, Nat.reduceLeDiff, Nat.le_refl, Int.natCast_zero, Int.toNat_natCast, Int.reduceToNat, *])
    all_goals first
      | omega | (refine ⟨?_, ?_⟩ <;> omega) | (simp; done) | (simp; omega)
      | rfl
      | (simp_all; done)
      | (simp_all; omega)
      | trace_state
  · have hl := lostN_len r.tags r.tags.length
    simp -dsimp -implicitDefEqProofs only [pick_nil, pick_cons, look_nil, look_cons, dropB_nil, dropB_cons, inD_nil, inD_cons, inE_nil, inE_cons, or_t_l, or_f_l, Nat.reduceBEq, Nat.reduceDiv, Nat.reduceAdd, beq_self_eq_true, Bool.false_eq_true, Bool.or_false, ↓reduceIte, Nat.reduceEqDiff, List.cons_append, List.nil_append]
    simp -dsimp -implicitDefEqProofs only [go_sem, ↓reduceIte, Nat.reduceEqDiff, Nat.reduceLT, Nat.reduceAdd, Nat.reduceMul, Nat.reduceLeDiff, Nat.le_refl, Int.natCast_zero, Int.toNat_natCast, Int.reduceToNat, nlt_len]
    repeat' first
      | (with_reducible refine And.intro ?_ ?_)
      | (refine sCallT_one (c_l18Different (lostN r.tags r.tags.length) (by omega) hnn) ?_; try simp -dsimp -implicitDefEqProofs only [go_sem, ↓reduceIte, Nat.reduceEqDiff, Nat.reduceLT, Nat.reduceAdd, Nat.reduceMul, Nat.reduceLeDiff, Nat.le_refl, Int.natCast_zero, Int.toNat_natCast, Int.reduceToNat, *])
    all_goals first
      | omega | (refine ⟨?_, ?_⟩ <;> omega) | (simp; done) | (simp; omega)
      | rfl
      | (simp; done)
      | trace_state
theorem c_iLostRows (r : RegM) (h1 : r.tags.length ≤ 1048576) (h2 : r.roles.length ≤ 1048576) : Fn Try.prog 29 [eReg r] true (· = .tup [eIs (lostRows r).1, eI (lostRows r).2]) := by
  refine Fn.of_vcN 29 [.tmp 2, .tmp 3] Try.func29 rfl rfl rfl rfl rfl (of_decide_eq_true rfl) ?_
  rcases hb : isReg r with _ | _
  · simp -dsimp -implicitDefEqProofs only [go_sem, ↓reduceIte, Nat.reduceEqDiff, Nat.reduceLT, Nat.reduceAdd, Nat.reduceMul, Nat.reduceLeDiff, Nat.le_refl, Int.natCast_zero, Int.toNat_natCast, Int.reduceToNat]
    repeat' first
      | (refine Br.intro (fun _ => ?_) (fun _ => ?_) <;> try simp -dsimp -implicitDefEqProofs only [go_sem, ↓reduceIte, Nat.reduceEqDiff, Nat.reduceLT, Nat.reduceAdd, Nat.reduceMul, Nat.reduceLeDiff, Nat.le_refl, Int.natCast_zero, Int.toNat_natCast, Int.reduceToNat, *])
      | (with_reducible refine And.intro ?_ ?_)
      | (refine sCallT_one (c_iIsRegister r h1 h2) ?_; try simp -dsimp -implicitDefEqProofs only [go_sem, ↓reduceIte, Nat.reduceEqDiff, Nat.reduceLT, Nat.reduceAdd, Nat.reduceMul, Nat.reduceLeDiff, Nat.le_refl, Int.natCast_zero, Int.toNat_natCast, Int.reduceToNat, *])
    all_goals first
      | omega
      | (simp_all [lostRows]; done)
      | trace_state
  have hF : lostRows r = (rowsL (lostN r.tags r.tags.length), 0) := by rw [lostRows, if_pos hb]
  have hnn := lostN_nn hb
  rw [hF]
  clear hF
  simp -dsimp -implicitDefEqProofs only [go_sem, ↓reduceIte, Nat.reduceEqDiff, Nat.reduceLT, Nat.reduceAdd, Nat.reduceMul, Nat.reduceLeDiff, Nat.le_refl, Int.natCast_zero, Int.toNat_natCast, Int.reduceToNat]
  repeat' first
    | (refine Br.intro (fun _ => ?_) (fun _ => ?_) <;> try simp -dsimp -implicitDefEqProofs only [go_sem, ↓reduceIte, Nat.reduceEqDiff, Nat.reduceLT, Nat.reduceAdd, Nat.reduceMul, Nat.reduceLeDiff, Nat.le_refl, Int.natCast_zero, Int.toNat_natCast, Int.reduceToNat, *])
    | (with_reducible refine And.intro ?_ ?_)
    | (refine sCallT_one (c_iIsRegister r h1 h2) ?_; try simp -dsimp -implicitDefEqProofs only [go_sem, ↓reduceIte, Nat.reduceEqDiff, Nat.reduceLT, Nat.reduceAdd, Nat.reduceMul, Nat.reduceLeDiff, Nat.le_refl, Int.natCast_zero, Int.toNat_natCast, Int.reduceToNat, *])
  all_goals try (first | omega | (simp; done) | (simp_all; done))
  refine Later.up [12, 13] [6, 24, 25] [10] r.tags.length (fun _ => True) (fun i => [(14, eI i), (4, .ref 10 0 0 (lostN r.tags i).length)]) (fun i => [(10, .row 0 ⟨1, false⟩ true ((lostN r.tags i).map eI))]) trivial ?_ rfl (fun i hi _ => ?_) (fun _ => ?_)
  · simp -dsimp -implicitDefEqProofs only [go_sem, ↓reduceIte, Nat.reduceEqDiff, Nat.reduceLT, Nat.reduceAdd, Nat.reduceMul, Nat.reduceLeDiff, Nat.le_refl, Int.natCast_zero, Int.toNat_natCast, Int.reduceToNat, lostN_zero]
    all_goals simp
  · have gi := get_some hi
    have li := lt_len hi
    have hl := lostN_len r.tags i
    have hs := lostN_succ r.tags i hi
    clear hnn hb
    simp -dsimp -implicitDefEqProofs only [pick_nil, pick_cons, look_nil, look_cons, dropB_nil, dropB_cons, inD_nil, inD_cons, inE_nil, inE_cons, or_t_l, or_f_l, Nat.reduceBEq, Nat.reduceDiv, Nat.reduceAdd, beq_self_eq_true, Bool.false_eq_true, Bool.or_false, ↓reduceIte, Nat.reduceEqDiff, List.cons_append, List.nil_append]
    rw [hs]
    clear hs
    simp -dsimp -implicitDefEqProofs only [go_sem, ↓reduceIte, Nat.reduceEqDiff, Nat.reduceLT, Nat.reduceAdd, Nat.reduceMul, Nat.reduceLeDiff, Nat.le_refl, Int.natCast_zero, Int.toNat_natCast, Int.reduceToNat, li, gi]
    repeat' first
      | (refine Br.intro (fun _ => ?_) (fun _ => ?_) <;> try simp -dsimp -implicitDefEqProofs only [go_sem, ↓reduceIte, Nat.reduceEqDiff, Nat.reduceLT, Nat.reduceAdd, Nat.reduceMul, Nat.reduceLeDiff, Nat.le_refl, Int.natCast_zero, Int.toNat_natCast, Int.reduceToNat, *])
      | (with_reducible refine And.intro ?_ ?_)
      | (refine Later.draw mixed rfl ?_; try simp -dsimp -implicitDefEqProofs only [go_sem, ↓reduceIte, Nat.reduceEqDiff, Nat.reduceLT, Nat.reduceAdd, Nat.reduceMul, Nat.reduceLeDiff, Nat.le_refl, Int.natCast_zero, Int.toNat_natCast, Int.reduceToNat, *])
    all_goals first
      | omega | (refine ⟨?_, ?_⟩ <;> omega) | (simp; done) | (simp; omega)
      | rfl
      | (simp_all; done)
      | (simp_all; omega)
      | trace_state
  · have hl := lostN_len r.tags r.tags.length
    simp -dsimp -implicitDefEqProofs only [pick_nil, pick_cons, look_nil, look_cons, dropB_nil, dropB_cons, inD_nil, inD_cons, inE_nil, inE_cons, or_t_l, or_f_l, Nat.reduceBEq, Nat.reduceDiv, Nat.reduceAdd, beq_self_eq_true, Bool.false_eq_true, Bool.or_false, ↓reduceIte, Nat.reduceEqDiff, List.cons_append, List.nil_append]
    simp -dsimp -implicitDefEqProofs only [go_sem, ↓reduceIte, Nat.reduceEqDiff, Nat.reduceLT, Nat.reduceAdd, Nat.reduceMul, Nat.reduceLeDiff, Nat.le_refl, Int.natCast_zero, Int.toNat_natCast, Int.reduceToNat, nlt_len]
    repeat' first
      | (with_reducible refine And.intro ?_ ?_)
      | (refine sCallT_one (c_rowsOf (lostN r.tags r.tags.length) (by omega)) ?_; try simp -dsimp -implicitDefEqProofs only [go_sem, ↓reduceIte, Nat.reduceEqDiff, Nat.reduceLT, Nat.reduceAdd, Nat.reduceMul, Nat.reduceLeDiff, Nat.le_refl, Int.natCast_zero, Int.toNat_natCast, Int.reduceToNat, *])
    all_goals first
      | omega | (refine ⟨?_, ?_⟩ <;> omega) | (simp; done) | (simp; omega)
      | rfl
      | (simp; done)
      | trace_state
end Go.Vc
