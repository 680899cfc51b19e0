/-
  Contracts: the lines of the console, read.
-/
import Derived.Test.YtlelhmbhhnokoaaDoorParse
set_option linter.unusedVariables false
set_option linter.unusedSimpArgs false
set_option linter.unnecessarySimpa false
namespace Go.Vc
open Go.Proofs Go.Lib
set_option maxRecDepth 100000
theorem c_l34Kind (w : List UInt8) : Fn Tryd.prog 55 [eS w] true (· = eI (kindW w)) := by
  refine Fn.of_vcN 22 [.tmp 2] Tryd.func55 rfl rfl rfl rfl rfl (of_decide_eq_true rfl) ?_
  unfold kindW wFalse wGhosts wWorst wCount wWafers wDrop wFind wLock wStamp wMaker wOpens wKey
  simp -dsimp -implicitDefEqProofs only [go_sem, ↓reduceIte, Nat.reduceEqDiff, Nat.reduceLT, Nat.reduceAdd, Nat.reduceMul, Nat.reduceLeDiff, Nat.le_refl, Int.natCast_zero, Int.toNat_natCast, Int.reduceToNat]
  repeat' (refine Br.intro (fun _ => ?_) (fun _ => ?_) <;> try simp -dsimp -implicitDefEqProofs only [go_sem, ↓reduceIte, Nat.reduceEqDiff, Nat.reduceLT, Nat.reduceAdd, Nat.reduceMul, Nat.reduceLeDiff, Nat.le_refl, Int.natCast_zero, Int.toNat_natCast, Int.reduceToNat, *])
  all_goals first
    | (simp only [decide_eq_true_eq, decide_eq_false_iff_not] at *; subst_vars; simp; done)
    | (simp only [decide_eq_true_eq, decide_eq_false_iff_not] at *; simp [*]; done)
    | trace_state
theorem c_wordCount (w : List UInt8) : Fn Tryd.prog 56 [eS w] true (· = eI (cntW w)) := by
  refine Fn.of_vcN 20 [.tmp 2] Tryd.func56 rfl rfl rfl rfl rfl (of_decide_eq_true rfl) ?_
  have hk : cntW w = if w = wFalse then 1 else if w = wGhosts then 1 else if w = wWorst then 1 else if w = wCount then 1 else if w = wWafers then 1
    else if w = wDrop then 2 else if w = wFind then 2 else if w = wLock then 2
    else if w = wOpens then 2 else if w = wKey then 3 else if w = wStamp then 3 else if w = wMaker then 6 else 0 := by
    unfold cntW kindW
    rcases Classical.em (w = wFalse) with h | h
    · subst h; decide
    simp only [if_neg h]
    clear h
    rcases Classical.em (w = wGhosts) with h | h
    · subst h; decide
    simp only [if_neg h]
    clear h
    rcases Classical.em (w = wWorst) with h | h
    · subst h; decide
    simp only [if_neg h]
    clear h
    rcases Classical.em (w = wCount) with h | h
    · subst h; decide
    simp only [if_neg h]
    clear h
    rcases Classical.em (w = wWafers) with h | h
    · subst h; decide
    simp only [if_neg h]
    clear h
    rcases Classical.em (w = wDrop) with h | h
    · subst h; decide
    simp only [if_neg h]
    clear h
    rcases Classical.em (w = wFind) with h | h
    · subst h; decide
    simp only [if_neg h]
    clear h
    rcases Classical.em (w = wLock) with h | h
    · subst h; decide
    simp only [if_neg h]
    clear h
    rcases Classical.em (w = wStamp) with h | h
    · subst h; decide
    simp only [if_neg h]
    clear h
    rcases Classical.em (w = wMaker) with h | h
    · subst h; decide
    simp only [if_neg h]
    clear h
    rcases Classical.em (w = wOpens) with h | h
    · subst h; decide
    simp only [if_neg h]
    clear h
    rcases Classical.em (w = wKey) with h | h
    · subst h; decide
    simp only [if_neg h]
    clear h
    decide
  rw [hk]
  clear hk
  unfold wFalse wGhosts wWorst wCount wWafers wDrop wFind wLock wStamp wMaker wOpens wKey
  simp -dsimp -implicitDefEqProofs only [go_sem, ↓reduceIte, Nat.reduceEqDiff, Nat.reduceLT, Nat.reduceAdd, Nat.reduceMul, Nat.reduceLeDiff, Nat.le_refl, Int.natCast_zero, Int.toNat_natCast, Int.reduceToNat]
  repeat' (refine Br.intro (fun _ => ?_) (fun _ => ?_) <;> try simp -dsimp -implicitDefEqProofs only [go_sem, ↓reduceIte, Nat.reduceEqDiff, Nat.reduceLT, Nat.reduceAdd, Nat.reduceMul, Nat.reduceLeDiff, Nat.le_refl, Int.natCast_zero, Int.toNat_natCast, Int.reduceToNat, *])
  all_goals first
    | (simp only [decide_eq_true_eq, decide_eq_false_iff_not] at *; subst_vars; simp; done)
    | (simp only [decide_eq_true_eq, decide_eq_false_iff_not] at *; simp [*]; done)
    | trace_state
theorem spl_head {s : List UInt8} : (spl 32 s)[0]? = some ((spl 32 s).headD []) := by
  have h := spl_ne 32 s
  cases hs : spl 32 s with
  | nil => exact absurd hs h
  | cons x r => rfl
theorem pline_len (s : List UInt8) : (pline s).1.length ≤ s.length + 1 ∧ (pline s).2.1.length ≤ s.length + 1 := by
  have hl := spl_length_le 32 s
  unfold pline
  split
  · simp
  · split
    · simp; omega
    · split
      · simp; omega
      · simp
set_option maxHeartbeats 2000000 in
theorem c_l34Parse (s : List UInt8) (hs : s.length ≤ 1048576) : Fn Tryd.prog 27 [eS s] true (· = .tup [eSs (pline s).1, eIs (pline s).2.1, eB (pline s).2.2]) := by
  refine Fn.of_vcN 54 [.tmp 2, .tmp 3, .tmp 4] Tryd.func27 rfl rfl rfl rfl rfl (of_decide_eq_true rfl) ?_
  have hpl := spl_part_len 32 s
  have hsl := spl_length_le 32 s
  have g0 := spl_head (s := s)
  have hne := spl_ne 32 s
  have hP : pline s = if kindW ((spl 32 s).headD []) < 0 ∨ ((spl 32 s).length : Int) ≠ (kindW ((spl 32 s).headD [])).tmod 10 + 1 then ([], [], false)
    else if 10 ≤ kindW ((spl 32 s).headD []) then (spl 32 s, [], true)
    else if (((spl 32 s).drop 1).all fun w => (valD w).2) = true then (spl 32 s, ((spl 32 s).drop 1).map fun w => (valD w).1, true)
    else ([], [], false) := rfl
  rw [hP]
  clear hP
  have hki := kindW_in ((spl 32 s).headD [])
  have hck := c_l34Kind ((spl 32 s).headD [])
  simp -dsimp -implicitDefEqProofs only [go_sem, ↓reduceIte, Nat.reduceEqDiff, Nat.reduceLT, Nat.reduceAdd, Nat.reduceMul, Nat.reduceLeDiff, Nat.le_refl, Int.natCast_zero, Int.toNat_natCast, Int.reduceToNat]
  refine sCallT_one (c_l01Split s 32 (by omega)) ?_
  generalize spl 32 s = ws at *
  have h1 : 1 ≤ ws.length := by cases ws with
    | nil => exact absurd rfl hne
    | cons x r => simp
  generalize ws.headD [] = w0 at *
  generalize kindW w0 = k at *
  have hk2 : -1 ≤ k ∧ k ≤ 12 := by omega
  have hkt : I64 (k.tmod 10) ∧ I64 (k.tmod 10 + 1) := by
    have h1 := Int.tmod_lt_of_pos k (show (0:Int) < 10 by decide)
    rcases hki with rfl | rfl | rfl | rfl | rfl | ⟨rfl, _⟩ | ⟨rfl, _⟩ <;> (unfold I64; decide)
  simp -dsimp -implicitDefEqProofs only [go_sem, ↓reduceIte, Nat.reduceEqDiff, Nat.reduceLT, Nat.reduceAdd, Nat.reduceMul, Nat.reduceLeDiff, Nat.le_refl, Int.natCast_zero, Int.toNat_natCast, Int.reduceToNat, g0]
  ((repeat' (with_reducible refine And.intro ?_ ?_)); all_goals try (first | omega | (refine ⟨?_, ?_⟩ <;> omega) | (exact rfl)))
  all_goals try simp -dsimp -implicitDefEqProofs only [go_sem, ↓reduceIte, Nat.reduceEqDiff, Nat.reduceLT, Nat.reduceAdd, Nat.reduceMul, Nat.reduceLeDiff, Nat.le_refl, Int.natCast_zero, Int.toNat_natCast, Int.reduceToNat, g0]
  ((repeat' (with_reducible refine And.intro ?_ ?_)); all_goals try (first | omega | (refine ⟨?_, ?_⟩ <;> omega) | (exact rfl)))
  refine sCallT_one hck ?_
  rcases hk0 : decide (k < 0) with _ | _
  rotate_left
  · rw [if_pos (.inl (of_decide_eq_true hk0))]
    simp -dsimp -implicitDefEqProofs only [go_sem, ↓reduceIte, Nat.reduceEqDiff, Nat.reduceLT, Nat.reduceAdd, Nat.reduceMul, Nat.reduceLeDiff, Nat.le_refl, Int.natCast_zero, Int.toNat_natCast, Int.reduceToNat, hk0]
    ((repeat' (with_reducible refine And.intro ?_ ?_)); all_goals try (first | omega | (refine ⟨?_, ?_⟩ <;> omega) | (exact rfl)))
    all_goals (first | omega | (refine ⟨?_, ?_⟩ <;> omega) | (exact rfl) | (simp; done) | trace_state)
  have hk0' := of_decide_eq_false hk0
  rcases hlen : ((ws.length : Int) != k.tmod 10 + 1) with _ | _
  rotate_left
  · rw [if_pos (.inr (by simpa using hlen))]
    simp -dsimp -implicitDefEqProofs only [go_sem, ↓reduceIte, Nat.reduceEqDiff, Nat.reduceLT, Nat.reduceAdd, Nat.reduceMul, Nat.reduceLeDiff, Nat.le_refl, Int.natCast_zero, Int.toNat_natCast, Int.reduceToNat, hk0, hlen]
    ((repeat' (with_reducible refine And.intro ?_ ?_)); all_goals try (first | omega | (refine ⟨?_, ?_⟩ <;> omega) | (exact rfl)))
    all_goals try simp -dsimp -implicitDefEqProofs only [go_sem, ↓reduceIte, Nat.reduceEqDiff, Nat.reduceLT, Nat.reduceAdd, Nat.reduceMul, Nat.reduceLeDiff, Nat.le_refl, Int.natCast_zero, Int.toNat_natCast, Int.reduceToNat, hlen]
    all_goals first | exact hkt.1 | exact hkt.2 | (first | omega | (refine ⟨?_, ?_⟩ <;> omega) | (exact rfl) | (simp; done) | trace_state)
  rw [if_neg (by rintro (q | q); · exact hk0' q
                 · exact q (by simpa using hlen))]
  rcases h10 : decide (k < 10) with _ | _
  · have h10' := of_decide_eq_false h10
    rw [if_pos (by omega)]
    have hl2 : (ws.length : Int) ≥ 2 := by
      have e : (ws.length : Int) = k.tmod 10 + 1 := by simpa using hlen
      rcases hki with rfl | rfl | rfl | rfl | rfl | ⟨rfl, _⟩ | ⟨rfl, _⟩ <;> simp at * <;> omega
    have d1 : decide ((1 : Int) < ws.length) = true := decide_eq_true (by omega)
    simp -dsimp -implicitDefEqProofs only [go_sem, ↓reduceIte, Nat.reduceEqDiff, Nat.reduceLT, Nat.reduceAdd, Nat.reduceMul, Nat.reduceLeDiff, Nat.le_refl, Int.natCast_zero, Int.toNat_natCast, Int.reduceToNat, hk0, hlen]
    ((repeat' (with_reducible refine And.intro ?_ ?_)); all_goals try (first | omega | (refine ⟨?_, ?_⟩ <;> omega) | (exact rfl)))
    all_goals try simp -dsimp -implicitDefEqProofs only [go_sem, ↓reduceIte, Nat.reduceEqDiff, Nat.reduceLT, Nat.reduceAdd, Nat.reduceMul, Nat.reduceLeDiff, Nat.le_refl, Int.natCast_zero, Int.toNat_natCast, Int.reduceToNat, hlen]
    all_goals first | exact hkt.1 | exact hkt.2 | skip
    refine Later.up [5, 6] [30, 43, 50, 51] [27] 0 (fun _ => True) (fun i => [(7, .ref 27 0 0 0), (8, eI 1)]) (fun i => [(27, .row 0 ⟨1, false⟩ true [])]) trivial ?_ rfl (fun i hi _ => absurd hi (Nat.not_lt_zero _)) (fun _ => ?_)
    · simp -dsimp -implicitDefEqProofs only [go_sem, ↓reduceIte, Nat.reduceEqDiff, Nat.reduceLT, Nat.reduceAdd, Nat.reduceMul, Nat.reduceLeDiff, Nat.le_refl, Int.natCast_zero, Int.toNat_natCast, Int.reduceToNat]
    simp -dsimp -implicitDefEqProofs only [pick_nil, pick_cons, look_nil, look_cons, dropB_nil, dropB_cons, inD_nil, inD_cons, inE_nil, inE_cons, or_t_l, or_f_l, Nat.reduceBEq, Nat.reduceDiv, Nat.reduceAdd, beq_self_eq_true, Bool.false_eq_true, Bool.or_false, ↓reduceIte, Nat.reduceEqDiff, List.cons_append, List.nil_append]
    simp -dsimp -implicitDefEqProofs only [go_sem, ↓reduceIte, Nat.reduceEqDiff, Nat.reduceLT, Nat.reduceAdd, Nat.reduceMul, Nat.reduceLeDiff, Nat.le_refl, Int.natCast_zero, Int.toNat_natCast, Int.reduceToNat, d1, h10]
    ((repeat' (with_reducible refine And.intro ?_ ?_)); all_goals try (first | omega | (refine ⟨?_, ?_⟩ <;> omega) | (exact rfl)))
    all_goals first | (first | omega | (refine ⟨?_, ?_⟩ <;> omega) | (exact rfl) | (simp; done) | trace_state) | (rw [take_map_len]; done)
  · have h10' := of_decide_eq_true h10
    rw [if_neg (by omega)]
    simp -dsimp -implicitDefEqProofs only [go_sem, ↓reduceIte, Nat.reduceEqDiff, Nat.reduceLT, Nat.reduceAdd, Nat.reduceMul, Nat.reduceLeDiff, Nat.le_refl, Int.natCast_zero, Int.toNat_natCast, Int.reduceToNat, hk0, hlen]
    ((repeat' (with_reducible refine And.intro ?_ ?_)); all_goals try (first | omega | (refine ⟨?_, ?_⟩ <;> omega) | (exact rfl)))
    all_goals try simp -dsimp -implicitDefEqProofs only [go_sem, ↓reduceIte, Nat.reduceEqDiff, Nat.reduceLT, Nat.reduceAdd, Nat.reduceMul, Nat.reduceLeDiff, Nat.le_refl, Int.natCast_zero, Int.toNat_natCast, Int.reduceToNat, hlen]
    all_goals first | exact hkt.1 | exact hkt.2 | skip
    refine Later.up [5, 6] [30, 43, 50, 51] [27] (ws.length - 1) (fun i => (((ws.drop 1).take i).all fun w => (valD w).2) = true) (fun i => [(7, .ref 27 0 0 i), (8, eI ((i : Int) + 1))]) (fun i => [(27, .row 0 ⟨1, false⟩ true ((((ws.drop 1).take i).map fun w => (valD w).1).map eI))]) rfl ?_ rfl (fun i hi hI => ?_) (fun hI => ?_)
    · simp -dsimp -implicitDefEqProofs only [go_sem, ↓reduceIte, Nat.reduceEqDiff, Nat.reduceLT, Nat.reduceAdd, Nat.reduceMul, Nat.reduceLeDiff, Nat.le_refl, Int.natCast_zero, Int.toNat_natCast, Int.reduceToNat]
      all_goals exact rfl
    · have hi1 : i + 1 < ws.length := by omega
      have hid : i < (ws.drop 1).length := by simp; omega
      have gi : ws[i + 1]? = some (ws.drop 1)[i] := by
        rw [List.getElem_drop, ← List.getElem?_eq_getElem, Nat.add_comm 1 i]
      have hw := hpl _ (List.mem_of_getElem? gi)
      have dl : decide ((i : Int) + 1 < ws.length) = true := decide_eq_true (by omega)
      have ht : ((i : Int) + 1).toNat = i + 1 := by omega
      have hall := all_take (fun w => (valD w).2) (ws.drop 1) i hid
      have hno := fun h => all_no (p := fun w => (valD w).2) hid h
      have htk : (ws.drop 1).take (i + 1) = (ws.drop 1).take i ++ [(ws.drop 1)[i]] := List.take_succ_eq_append_getElem hid
      have hol : (((ws.drop 1).take i).map fun w => (valD w).1).length = i := by simp; omega
      rw [htk] at hall ⊢
      rw [List.map_append, List.map_singleton]
      clear htk
      generalize (ws.drop 1)[i] = w at *
      have hcv := c_l01Value w (by omega)
      generalize valD w = v at *
      generalize ((ws.drop 1).take i).map (fun w => (valD w).1) = q at *
      rcases hv : v.2 with _ | _
      · have hz := hno hv
        rw [if_neg (by rw [hz]; decide)]
        simp -dsimp -implicitDefEqProofs only [pick_nil, pick_cons, look_nil, look_cons, dropB_nil, dropB_cons, inD_nil, inD_cons, inE_nil, inE_cons, or_t_l, or_f_l, Nat.reduceBEq, Nat.reduceDiv, Nat.reduceAdd, beq_self_eq_true, Bool.false_eq_true, Bool.or_false, ↓reduceIte, Nat.reduceEqDiff, List.cons_append, List.nil_append]
        simp -dsimp -implicitDefEqProofs only [go_sem, ↓reduceIte, Nat.reduceEqDiff, Nat.reduceLT, Nat.reduceAdd, Nat.reduceMul, Nat.reduceLeDiff, Nat.le_refl, Int.natCast_zero, Int.toNat_natCast, Int.reduceToNat, dl, h10, ht, gi]
        ((repeat' (with_reducible refine And.intro ?_ ?_)); all_goals try (first | omega | (refine ⟨?_, ?_⟩ <;> omega) | (exact rfl)))
        all_goals try simp -dsimp -implicitDefEqProofs only [go_sem, ↓reduceIte, Nat.reduceEqDiff, Nat.reduceLT, Nat.reduceAdd, Nat.reduceMul, Nat.reduceLeDiff, Nat.le_refl, Int.natCast_zero, Int.toNat_natCast, Int.reduceToNat, ht, gi]
        ((repeat' (with_reducible refine And.intro ?_ ?_)); all_goals try (first | omega | (refine ⟨?_, ?_⟩ <;> omega) | (exact rfl)))
        refine sCallT_one hcv ?_
        simp -dsimp -implicitDefEqProofs only [go_sem, ↓reduceIte, Nat.reduceEqDiff, Nat.reduceLT, Nat.reduceAdd, Nat.reduceMul, Nat.reduceLeDiff, Nat.le_refl, Int.natCast_zero, Int.toNat_natCast, Int.reduceToNat, hv]
        ((repeat' (with_reducible refine And.intro ?_ ?_)); all_goals try (first | omega | (refine ⟨?_, ?_⟩ <;> omega) | (exact rfl)))
        all_goals (first | omega | (refine ⟨?_, ?_⟩ <;> omega) | (exact rfl) | (simp; done) | trace_state)
      · simp -dsimp -implicitDefEqProofs only [pick_nil, pick_cons, look_nil, look_cons, dropB_nil, dropB_cons, inD_nil, inD_cons, inE_nil, inE_cons, or_t_l, or_f_l, Nat.reduceBEq, Nat.reduceDiv, Nat.reduceAdd, beq_self_eq_true, Bool.false_eq_true, Bool.or_false, ↓reduceIte, Nat.reduceEqDiff, List.cons_append, List.nil_append]
        simp -dsimp -implicitDefEqProofs only [go_sem, ↓reduceIte, Nat.reduceEqDiff, Nat.reduceLT, Nat.reduceAdd, Nat.reduceMul, Nat.reduceLeDiff, Nat.le_refl, Int.natCast_zero, Int.toNat_natCast, Int.reduceToNat, dl, h10, ht, gi]
        ((repeat' (with_reducible refine And.intro ?_ ?_)); all_goals try (first | omega | (refine ⟨?_, ?_⟩ <;> omega) | (exact rfl)))
        all_goals try simp -dsimp -implicitDefEqProofs only [go_sem, ↓reduceIte, Nat.reduceEqDiff, Nat.reduceLT, Nat.reduceAdd, Nat.reduceMul, Nat.reduceLeDiff, Nat.le_refl, Int.natCast_zero, Int.toNat_natCast, Int.reduceToNat, ht, gi]
        ((repeat' (with_reducible refine And.intro ?_ ?_)); all_goals try (first | omega | (refine ⟨?_, ?_⟩ <;> omega) | (exact rfl)))
        refine sCallT_one hcv ?_
        simp -dsimp -implicitDefEqProofs only [go_sem, ↓reduceIte, Nat.reduceEqDiff, Nat.reduceLT, Nat.reduceAdd, Nat.reduceMul, Nat.reduceLeDiff, Nat.le_refl, Int.natCast_zero, Int.toNat_natCast, Int.reduceToNat, hv]
        ((repeat' (with_reducible refine And.intro ?_ ?_)); all_goals try (first | omega | (refine ⟨?_, ?_⟩ <;> omega) | (exact rfl)))
        all_goals first | omega | (refine ⟨?_, ?_⟩ <;> omega) | (rw [hall, hI, hv]; rfl) | (exact rfl) | (simp [hol]; done) | (rw [← hol, take_map_len]; simp; done) | trace_state
    · have dl : decide (((ws.length - 1 : Nat) : Int) + 1 < ws.length) = false := decide_eq_false (by omega)
      have hdl : (ws.drop 1).take (ws.length - 1) = ws.drop 1 := List.take_of_length_le (by simp)
      rw [hdl] at hI ⊢
      rw [if_pos hI]
      have hol : ((ws.drop 1).map fun w => (valD w).1).length = ws.length - 1 := by simp
      generalize (ws.drop 1).map (fun w => (valD w).1) = q at *
      rw [← hol] at dl ⊢
      simp -dsimp -implicitDefEqProofs only [pick_nil, pick_cons, look_nil, look_cons, dropB_nil, dropB_cons, inD_nil, inD_cons, inE_nil, inE_cons, or_t_l, or_f_l, Nat.reduceBEq, Nat.reduceDiv, Nat.reduceAdd, beq_self_eq_true, Bool.false_eq_true, Bool.or_false, ↓reduceIte, Nat.reduceEqDiff, List.cons_append, List.nil_append]
      simp -dsimp -implicitDefEqProofs only [go_sem, ↓reduceIte, Nat.reduceEqDiff, Nat.reduceLT, Nat.reduceAdd, Nat.reduceMul, Nat.reduceLeDiff, Nat.le_refl, Int.natCast_zero, Int.toNat_natCast, Int.reduceToNat, dl]
      ((repeat' (with_reducible refine And.intro ?_ ?_)); all_goals try (first | omega | (refine ⟨?_, ?_⟩ <;> omega) | (exact rfl)))
      all_goals first | (first | omega | (refine ⟨?_, ?_⟩ <;> omega) | (exact rfl) | (simp; done) | trace_state) | (rw [take_map_len]; done)
theorem c_sIsLine (s : List UInt8) (hs : s.length ≤ 1048576) : Fn Tryd.prog 7 [eS s] true (· = eB (pline s).2.2) := by
  refine Fn.of_vcN 13 [.tmp 2] Tryd.func7 rfl rfl rfl rfl rfl (of_decide_eq_true rfl) ?_
  simp -dsimp -implicitDefEqProofs only [go_sem, ↓reduceIte, Nat.reduceEqDiff, Nat.reduceLT, Nat.reduceAdd, Nat.reduceMul, Nat.reduceLeDiff, Nat.le_refl, Int.natCast_zero, Int.toNat_natCast, Int.reduceToNat]
  refine sCallT_one (c_l34Parse s hs) ?_
  simp -dsimp -implicitDefEqProofs only [go_sem, ↓reduceIte, Nat.reduceEqDiff, Nat.reduceLT, Nat.reduceAdd, Nat.reduceMul, Nat.reduceLeDiff, Nat.le_refl, Int.natCast_zero, Int.toNat_natCast, Int.reduceToNat]
  all_goals exact rfl
theorem kind_key {w : List UInt8} (h : 10 ≤ kindW w) : w = wKey ∨ w = wOpens := by
  rcases kindW_in w with q | q | q | q | q | ⟨q, e⟩ | ⟨q, e⟩
  all_goals first | omega | exact .inr e | exact .inl e
theorem kind_nkey {w : List UInt8} (h : kindW w < 10) : w ≠ wKey ∧ w ≠ wOpens := by
  refine ⟨?_, ?_⟩
  · rintro rfl; rw [kindW_key] at h; omega
  · rintro rfl; rw [kindW_opens] at h; omega
set_option maxHeartbeats 2000000 in
theorem c_readLine (s : List UInt8) (hs : s.length ≤ 1048576) : Fn Tryd.prog 28 [eS s] true (· = .tup [eSs (pline s).1, eIs (pline s).2.1, eB (pline s).2.2]) := by
  refine Fn.of_vcN 62 [.tmp 2, .tmp 3, .tmp 4] Tryd.func28 rfl rfl rfl rfl rfl (of_decide_eq_true rfl) ?_
  have hpl := spl_part_len 32 s
  have hsl := spl_length_le 32 s
  have g0 := spl_head (s := s)
  have hne := spl_ne 32 s
  have hP : pline s = if kindW ((spl 32 s).headD []) < 0 ∨ ((spl 32 s).length : Int) ≠ (kindW ((spl 32 s).headD [])).tmod 10 + 1 then ([], [], false)
    else if 10 ≤ kindW ((spl 32 s).headD []) then (spl 32 s, [], true)
    else if (((spl 32 s).drop 1).all fun w => (valD w).2) = true then (spl 32 s, ((spl 32 s).drop 1).map fun w => (valD w).1, true)
    else ([], [], false) := rfl
  rw [hP]
  clear hP
  have hck := c_wordCount ((spl 32 s).headD [])
  have hkk := fun h => kind_key (w := (spl 32 s).headD []) h
  have hkn := fun h => kind_nkey (w := (spl 32 s).headD []) h
  have hcn : cntW ((spl 32 s).headD []) = if kindW ((spl 32 s).headD []) < 0 then 0 else (kindW ((spl 32 s).headD [])).tmod 10 + 1 := rfl
  simp -dsimp -implicitDefEqProofs only [go_sem, ↓reduceIte, Nat.reduceEqDiff, Nat.reduceLT, Nat.reduceAdd, Nat.reduceMul, Nat.reduceLeDiff, Nat.le_refl, Int.natCast_zero, Int.toNat_natCast, Int.reduceToNat]
  refine sCallT_one (c_Split s 32 (by omega)) ?_
  generalize spl 32 s = ws at *
  have h1 : 1 ≤ ws.length := by cases ws with
    | nil => exact absurd rfl hne
    | cons x r => simp
  generalize ws.headD [] = w0 at *
  generalize kindW w0 = k at *
  generalize cntW w0 = n at *
  simp -dsimp -implicitDefEqProofs only [go_sem, ↓reduceIte, Nat.reduceEqDiff, Nat.reduceLT, Nat.reduceAdd, Nat.reduceMul, Nat.reduceLeDiff, Nat.le_refl, Int.natCast_zero, Int.toNat_natCast, Int.reduceToNat, g0]
  ((repeat' (with_reducible refine And.intro ?_ ?_)); all_goals try (first | omega | (refine ⟨?_, ?_⟩ <;> omega) | (exact rfl)))
  all_goals try simp -dsimp -implicitDefEqProofs only [go_sem, ↓reduceIte, Nat.reduceEqDiff, Nat.reduceLT, Nat.reduceAdd, Nat.reduceMul, Nat.reduceLeDiff, Nat.le_refl, Int.natCast_zero, Int.toNat_natCast, Int.reduceToNat, g0]
  ((repeat' (with_reducible refine And.intro ?_ ?_)); all_goals try (first | omega | (refine ⟨?_, ?_⟩ <;> omega) | (exact rfl)))
  refine sCallT_one hck ?_
  rcases hlen : ((ws.length : Int) != n) with _ | _
  rotate_left
  · have hl' : (ws.length : Int) ≠ n := by simpa using hlen
    rw [if_pos (by
      by_cases h0 : k < 0
      · exact .inl h0
      · rw [if_neg h0] at hcn
        exact .inr (by rw [← hcn]; exact hl'))]
    simp -dsimp -implicitDefEqProofs only [go_sem, ↓reduceIte, Nat.reduceEqDiff, Nat.reduceLT, Nat.reduceAdd, Nat.reduceMul, Nat.reduceLeDiff, Nat.le_refl, Int.natCast_zero, Int.toNat_natCast, Int.reduceToNat, hlen]
    ((repeat' (with_reducible refine And.intro ?_ ?_)); all_goals try (first | omega | (refine ⟨?_, ?_⟩ <;> omega) | (exact rfl)))
    all_goals (first | omega | (refine ⟨?_, ?_⟩ <;> omega) | (exact rfl) | (simp; done) | trace_state)
  have hl' : (ws.length : Int) = n := by simpa using hlen
  have hk0 : ¬ k < 0 := by
    intro h0
    rw [if_pos h0] at hcn
    omega
  rw [if_neg hk0] at hcn
  rw [if_neg (by rintro (q | q); · exact hk0 q
                 · exact q (by rw [← hcn]; exact hl'))]
  unfold wKey wOpens at hkk hkn
  rcases h10 : decide (10 ≤ k) with _ | _
  · have h10' := of_decide_eq_false h10
    obtain ⟨q1, q2⟩ := hkn (by omega)
    have d1 : decide (w0 = [107, 101, 121]) = false := decide_eq_false q1
    have d2 : decide (w0 = [111, 112, 101, 110, 115]) = false := decide_eq_false q2
    have hone : (1 : Int).toNat = 1 := rfl
    rw [if_neg h10']
    clear hkk hkn hck hcn
    simp -dsimp -implicitDefEqProofs only [go_sem, ↓reduceIte, Nat.reduceEqDiff, Nat.reduceLT, Nat.reduceAdd, Nat.reduceMul, Nat.reduceLeDiff, Nat.le_refl, Int.natCast_zero, Int.toNat_natCast, Int.reduceToNat, hlen, g0, d1, d2]
    ((repeat' (with_reducible refine And.intro ?_ ?_)); all_goals try (first | omega | (refine ⟨?_, ?_⟩ <;> omega) | (exact rfl)))
    all_goals try simp -dsimp -implicitDefEqProofs only [go_sem, ↓reduceIte, Nat.reduceEqDiff, Nat.reduceLT, Nat.reduceAdd, Nat.reduceMul, Nat.reduceLeDiff, Nat.le_refl, Int.natCast_zero, Int.toNat_natCast, Int.reduceToNat, g0, d1, d2]
    ((repeat' (with_reducible refine And.intro ?_ ?_)); all_goals try (first | omega | (refine ⟨?_, ?_⟩ <;> omega) | (exact rfl)))
    all_goals try simp -dsimp -implicitDefEqProofs only [go_sem, ↓reduceIte, Nat.reduceEqDiff, Nat.reduceLT, Nat.reduceAdd, Nat.reduceMul, Nat.reduceLeDiff, Nat.le_refl, Int.natCast_zero, Int.toNat_natCast, Int.reduceToNat, g0, d1, d2, hone]
    ((repeat' (with_reducible refine And.intro ?_ ?_)); all_goals try (first | omega | (refine ⟨?_, ?_⟩ <;> omega) | (exact rfl)))
    refine Later.up [5, 33, 34] [41, 52, 57, 58] [13] (ws.length - 1) (fun i => (((ws.drop 1).take i).all fun w => (valD w).2) = true) (fun i => [(6, .ref 13 0 0 i), (35, eI i)]) (fun i => [(13, .row 0 ⟨1, false⟩ true ((((ws.drop 1).take i).map fun w => (valD w).1).map eI))]) rfl ?_ rfl (fun i hi hI => ?_) (fun hI => ?_)
    · simp -dsimp -implicitDefEqProofs only [go_sem, ↓reduceIte, Nat.reduceEqDiff, Nat.reduceLT, Nat.reduceAdd, Nat.reduceMul, Nat.reduceLeDiff, Nat.le_refl, Int.natCast_zero, Int.toNat_natCast, Int.reduceToNat]
      all_goals first | exact rfl | trace_state
    · have hi1 : i + 1 < ws.length := by omega
      have hid : i < (ws.drop 1).length := by simp; omega
      have gi : ws[1 + i]? = some (ws.drop 1)[i] := by
        rw [List.getElem_drop, ← List.getElem?_eq_getElem]
      have hw := hpl _ (List.mem_of_getElem? gi)
      have dl := lt_len hi
      have hall := all_take (fun w => (valD w).2) (ws.drop 1) i hid
      have hno := fun h => all_no (p := fun w => (valD w).2) hid h
      have htk : (ws.drop 1).take (i + 1) = (ws.drop 1).take i ++ [(ws.drop 1)[i]] := List.take_succ_eq_append_getElem hid
      have hol : (((ws.drop 1).take i).map fun w => (valD w).1).length = i := by simp; omega
      rw [htk] at hall ⊢
      rw [List.map_append, List.map_singleton]
      clear htk
      generalize (ws.drop 1)[i] = w at *
      have hcv := c_number w (by omega)
      have hiff := numI_valD w
      have heq := fun h => numI_valD_eq (w := w) h
      generalize ((ws.drop 1).take i).map (fun w => (valD w).1) = q at *
      generalize valD w = v at *
      generalize numI w = u at *
      rcases hu : u.2 with _ | _
      · have hv : v.2 = false := by
          cases hv2 : v.2 with
          | false => rfl
          | true => have := (hiff.2 hv2).1; rw [hu] at this; cases this
        have hz := hno hv
        rw [if_neg (by rw [hz]; decide)]
        simp -dsimp -implicitDefEqProofs only [pick_nil, pick_cons, look_nil, look_cons, dropB_nil, dropB_cons, inD_nil, inD_cons, inE_nil, inE_cons, or_t_l, or_f_l, Nat.reduceBEq, Nat.reduceDiv, Nat.reduceAdd, beq_self_eq_true, Bool.false_eq_true, Bool.or_false, ↓reduceIte, Nat.reduceEqDiff, List.cons_append, List.nil_append]
        simp -dsimp -implicitDefEqProofs only [go_sem, ↓reduceIte, Nat.reduceEqDiff, Nat.reduceLT, Nat.reduceAdd, Nat.reduceMul, Nat.reduceLeDiff, Nat.le_refl, Int.natCast_zero, Int.toNat_natCast, Int.reduceToNat, dl, gi]
        ((repeat' (with_reducible refine And.intro ?_ ?_)); all_goals try (first | omega | (refine ⟨?_, ?_⟩ <;> omega) | (exact rfl)))
        all_goals try simp -dsimp -implicitDefEqProofs only [go_sem, ↓reduceIte, Nat.reduceEqDiff, Nat.reduceLT, Nat.reduceAdd, Nat.reduceMul, Nat.reduceLeDiff, Nat.le_refl, Int.natCast_zero, Int.toNat_natCast, Int.reduceToNat, gi]
        ((repeat' (with_reducible refine And.intro ?_ ?_)); all_goals try (first | omega | (refine ⟨?_, ?_⟩ <;> omega) | (exact rfl)))
        refine sCallT_one hcv ?_
        simp -dsimp -implicitDefEqProofs only [go_sem, ↓reduceIte, Nat.reduceEqDiff, Nat.reduceLT, Nat.reduceAdd, Nat.reduceMul, Nat.reduceLeDiff, Nat.le_refl, Int.natCast_zero, Int.toNat_natCast, Int.reduceToNat, hu]
        ((repeat' (with_reducible refine And.intro ?_ ?_)); all_goals try (first | omega | (refine ⟨?_, ?_⟩ <;> omega) | (exact rfl)))
        all_goals (first | omega | (refine ⟨?_, ?_⟩ <;> omega) | (exact rfl) | (simp; done) | trace_state)
      rcases hn0 : decide (u.1 < 0) with _ | _
      rotate_left
      · have hn0' := of_decide_eq_true hn0
        have hv : v.2 = false := by
          cases hv2 : v.2 with
          | false => rfl
          | true => have := (hiff.2 hv2).2.1; omega
        have hz := hno hv
        rw [if_neg (by rw [hz]; decide)]
        simp -dsimp -implicitDefEqProofs only [pick_nil, pick_cons, look_nil, look_cons, dropB_nil, dropB_cons, inD_nil, inD_cons, inE_nil, inE_cons, or_t_l, or_f_l, Nat.reduceBEq, Nat.reduceDiv, Nat.reduceAdd, beq_self_eq_true, Bool.false_eq_true, Bool.or_false, ↓reduceIte, Nat.reduceEqDiff, List.cons_append, List.nil_append]
        simp -dsimp -implicitDefEqProofs only [go_sem, ↓reduceIte, Nat.reduceEqDiff, Nat.reduceLT, Nat.reduceAdd, Nat.reduceMul, Nat.reduceLeDiff, Nat.le_refl, Int.natCast_zero, Int.toNat_natCast, Int.reduceToNat, dl, gi]
        ((repeat' (with_reducible refine And.intro ?_ ?_)); all_goals try (first | omega | (refine ⟨?_, ?_⟩ <;> omega) | (exact rfl)))
        all_goals try simp -dsimp -implicitDefEqProofs only [go_sem, ↓reduceIte, Nat.reduceEqDiff, Nat.reduceLT, Nat.reduceAdd, Nat.reduceMul, Nat.reduceLeDiff, Nat.le_refl, Int.natCast_zero, Int.toNat_natCast, Int.reduceToNat, gi]
        ((repeat' (with_reducible refine And.intro ?_ ?_)); all_goals try (first | omega | (refine ⟨?_, ?_⟩ <;> omega) | (exact rfl)))
        refine sCallT_one hcv ?_
        simp -dsimp -implicitDefEqProofs only [go_sem, ↓reduceIte, Nat.reduceEqDiff, Nat.reduceLT, Nat.reduceAdd, Nat.reduceMul, Nat.reduceLeDiff, Nat.le_refl, Int.natCast_zero, Int.toNat_natCast, Int.reduceToNat, hu, hn0]
        ((repeat' (with_reducible refine And.intro ?_ ?_)); all_goals try (first | omega | (refine ⟨?_, ?_⟩ <;> omega) | (exact rfl)))
        all_goals (first | omega | (refine ⟨?_, ?_⟩ <;> omega) | (exact rfl) | (simp; done) | trace_state)
      rcases hl13 : decide ((w.length : Int) > 13) with _ | _
      rotate_left
      · have hl13' := of_decide_eq_true hl13
        have hv : v.2 = false := by
          cases hv2 : v.2 with
          | false => rfl
          | true => have := (hiff.2 hv2).2.2; omega
        have hz := hno hv
        rw [if_neg (by rw [hz]; decide)]
        simp -dsimp -implicitDefEqProofs only [pick_nil, pick_cons, look_nil, look_cons, dropB_nil, dropB_cons, inD_nil, inD_cons, inE_nil, inE_cons, or_t_l, or_f_l, Nat.reduceBEq, Nat.reduceDiv, Nat.reduceAdd, beq_self_eq_true, Bool.false_eq_true, Bool.or_false, ↓reduceIte, Nat.reduceEqDiff, List.cons_append, List.nil_append]
        simp -dsimp -implicitDefEqProofs only [go_sem, ↓reduceIte, Nat.reduceEqDiff, Nat.reduceLT, Nat.reduceAdd, Nat.reduceMul, Nat.reduceLeDiff, Nat.le_refl, Int.natCast_zero, Int.toNat_natCast, Int.reduceToNat, dl, gi]
        ((repeat' (with_reducible refine And.intro ?_ ?_)); all_goals try (first | omega | (refine ⟨?_, ?_⟩ <;> omega) | (exact rfl)))
        all_goals try simp -dsimp -implicitDefEqProofs only [go_sem, ↓reduceIte, Nat.reduceEqDiff, Nat.reduceLT, Nat.reduceAdd, Nat.reduceMul, Nat.reduceLeDiff, Nat.le_refl, Int.natCast_zero, Int.toNat_natCast, Int.reduceToNat, gi]
        ((repeat' (with_reducible refine And.intro ?_ ?_)); all_goals try (first | omega | (refine ⟨?_, ?_⟩ <;> omega) | (exact rfl)))
        refine sCallT_one hcv ?_
        simp -dsimp -implicitDefEqProofs only [go_sem, ↓reduceIte, Nat.reduceEqDiff, Nat.reduceLT, Nat.reduceAdd, Nat.reduceMul, Nat.reduceLeDiff, Nat.le_refl, Int.natCast_zero, Int.toNat_natCast, Int.reduceToNat, hu, hn0, hl13]
        ((repeat' (with_reducible refine And.intro ?_ ?_)); all_goals try (first | omega | (refine ⟨?_, ?_⟩ <;> omega) | (exact rfl)))
        all_goals (first | omega | (refine ⟨?_, ?_⟩ <;> omega) | (exact rfl) | (simp; done) | trace_state)
      have hv : v.2 = true := hiff.1 ⟨hu, by have := of_decide_eq_false hn0; omega, by have := of_decide_eq_false hl13; omega⟩
      have huv := heq hv
      rw [← huv]
      simp -dsimp -implicitDefEqProofs only [pick_nil, pick_cons, look_nil, look_cons, dropB_nil, dropB_cons, inD_nil, inD_cons, inE_nil, inE_cons, or_t_l, or_f_l, Nat.reduceBEq, Nat.reduceDiv, Nat.reduceAdd, beq_self_eq_true, Bool.false_eq_true, Bool.or_false, ↓reduceIte, Nat.reduceEqDiff, List.cons_append, List.nil_append]
      simp -dsimp -implicitDefEqProofs only [go_sem, ↓reduceIte, Nat.reduceEqDiff, Nat.reduceLT, Nat.reduceAdd, Nat.reduceMul, Nat.reduceLeDiff, Nat.le_refl, Int.natCast_zero, Int.toNat_natCast, Int.reduceToNat, dl, gi]
      ((repeat' (with_reducible refine And.intro ?_ ?_)); all_goals try (first | omega | (refine ⟨?_, ?_⟩ <;> omega) | (exact rfl)))
      all_goals try simp -dsimp -implicitDefEqProofs only [go_sem, ↓reduceIte, Nat.reduceEqDiff, Nat.reduceLT, Nat.reduceAdd, Nat.reduceMul, Nat.reduceLeDiff, Nat.le_refl, Int.natCast_zero, Int.toNat_natCast, Int.reduceToNat, gi]
      ((repeat' (with_reducible refine And.intro ?_ ?_)); all_goals try (first | omega | (refine ⟨?_, ?_⟩ <;> omega) | (exact rfl)))
      refine sCallT_one hcv ?_
      simp -dsimp -implicitDefEqProofs only [go_sem, ↓reduceIte, Nat.reduceEqDiff, Nat.reduceLT, Nat.reduceAdd, Nat.reduceMul, Nat.reduceLeDiff, Nat.le_refl, Int.natCast_zero, Int.toNat_natCast, Int.reduceToNat, hu, hn0, hl13]
      ((repeat' (with_reducible refine And.intro ?_ ?_)); all_goals try (first | omega | (refine ⟨?_, ?_⟩ <;> omega) | (exact rfl)))
      all_goals first | omega | (refine ⟨?_, ?_⟩ <;> omega) | (rw [hall, hI, hv]; rfl) | (exact rfl) | (simp [hol]; done) | (rw [← hol, take_map_len]; simp; done) | trace_state
    · have hdl : (ws.drop 1).take (ws.length - 1) = ws.drop 1 := List.take_of_length_le (by simp)
      rw [hdl] at hI ⊢
      rw [if_pos hI]
      have hol : ((ws.drop 1).map fun w => (valD w).1).length = ws.length - 1 := by simp
      generalize (ws.drop 1).map (fun w => (valD w).1) = q at *
      rw [← hol]
      simp -dsimp -implicitDefEqProofs only [pick_nil, pick_cons, look_nil, look_cons, dropB_nil, dropB_cons, inD_nil, inD_cons, inE_nil, inE_cons, or_t_l, or_f_l, Nat.reduceBEq, Nat.reduceDiv, Nat.reduceAdd, beq_self_eq_true, Bool.false_eq_true, Bool.or_false, ↓reduceIte, Nat.reduceEqDiff, List.cons_append, List.nil_append]
      simp -dsimp -implicitDefEqProofs only [go_sem, ↓reduceIte, Nat.reduceEqDiff, Nat.reduceLT, Nat.reduceAdd, Nat.reduceMul, Nat.reduceLeDiff, Nat.le_refl, Int.natCast_zero, Int.toNat_natCast, Int.reduceToNat, nlt_len]
      ((repeat' (with_reducible refine And.intro ?_ ?_)); all_goals try (first | omega | (refine ⟨?_, ?_⟩ <;> omega) | (exact rfl)))
      all_goals first | (simp; done) | (rw [← hol, take_map_len]; done) | (rw [take_map_len]; done) | (first | omega | (refine ⟨?_, ?_⟩ <;> omega) | (exact rfl) | (simp; done) | trace_state)
  · have h10' := of_decide_eq_true h10
    rw [if_pos h10']
    rcases hkk h10' with q1 | q1
    · have d1 : decide (w0 = [107, 101, 121]) = true := decide_eq_true q1
      simp -dsimp -implicitDefEqProofs only [go_sem, ↓reduceIte, Nat.reduceEqDiff, Nat.reduceLT, Nat.reduceAdd, Nat.reduceMul, Nat.reduceLeDiff, Nat.le_refl, Int.natCast_zero, Int.toNat_natCast, Int.reduceToNat, hlen, g0, d1]
      ((repeat' (with_reducible refine And.intro ?_ ?_)); all_goals try (first | omega | (refine ⟨?_, ?_⟩ <;> omega) | (exact rfl)))
      all_goals try simp -dsimp -implicitDefEqProofs only [go_sem, ↓reduceIte, Nat.reduceEqDiff, Nat.reduceLT, Nat.reduceAdd, Nat.reduceMul, Nat.reduceLeDiff, Nat.le_refl, Int.natCast_zero, Int.toNat_natCast, Int.reduceToNat, g0, d1]
      ((repeat' (with_reducible refine And.intro ?_ ?_)); all_goals try (first | omega | (refine ⟨?_, ?_⟩ <;> omega) | (exact rfl)))
      all_goals first | (first | omega | (refine ⟨?_, ?_⟩ <;> omega) | (exact rfl) | (simp; done) | trace_state) | (rw [take_map_len]; done)
    · have d1 : decide (w0 = [107, 101, 121]) = false := decide_eq_false (by rw [q1]; decide)
      have d2 : decide (w0 = [111, 112, 101, 110, 115]) = true := decide_eq_true q1
      simp -dsimp -implicitDefEqProofs only [go_sem, ↓reduceIte, Nat.reduceEqDiff, Nat.reduceLT, Nat.reduceAdd, Nat.reduceMul, Nat.reduceLeDiff, Nat.le_refl, Int.natCast_zero, Int.toNat_natCast, Int.reduceToNat, hlen, g0, d1, d2]
      ((repeat' (with_reducible refine And.intro ?_ ?_)); all_goals try (first | omega | (refine ⟨?_, ?_⟩ <;> omega) | (exact rfl)))
      all_goals try simp -dsimp -implicitDefEqProofs only [go_sem, ↓reduceIte, Nat.reduceEqDiff, Nat.reduceLT, Nat.reduceAdd, Nat.reduceMul, Nat.reduceLeDiff, Nat.le_refl, Int.natCast_zero, Int.toNat_natCast, Int.reduceToNat, g0, d1, d2]
      ((repeat' (with_reducible refine And.intro ?_ ?_)); all_goals try (first | omega | (refine ⟨?_, ?_⟩ <;> omega) | (exact rfl)))
      all_goals try simp -dsimp -implicitDefEqProofs only [go_sem, ↓reduceIte, Nat.reduceEqDiff, Nat.reduceLT, Nat.reduceAdd, Nat.reduceMul, Nat.reduceLeDiff, Nat.le_refl, Int.natCast_zero, Int.toNat_natCast, Int.reduceToNat, g0, d1, d2]
      ((repeat' (with_reducible refine And.intro ?_ ?_)); all_goals try (first | omega | (refine ⟨?_, ?_⟩ <;> omega) | (exact rfl)))
      all_goals first | (first | omega | (refine ⟨?_, ?_⟩ <;> omega) | (exact rfl) | (simp; done) | trace_state) | (rw [take_map_len]; done)
theorem c_iIsLine (s : List UInt8) (hs : s.length ≤ 1048576) : Fn Tryd.prog 8 [eS s] true (· = eB (pline s).2.2) := by
  refine Fn.of_vcN 13 [.tmp 2] Tryd.func8 rfl rfl rfl rfl rfl (of_decide_eq_true rfl) ?_
  simp -dsimp -implicitDefEqProofs only [go_sem, ↓reduceIte, Nat.reduceEqDiff, Nat.reduceLT, Nat.reduceAdd, Nat.reduceMul, Nat.reduceLeDiff, Nat.le_refl, Int.natCast_zero, Int.toNat_natCast, Int.reduceToNat]
  refine sCallT_one (c_readLine s hs) ?_
  simp -dsimp -implicitDefEqProofs only [go_sem, ↓reduceIte, Nat.reduceEqDiff, Nat.reduceLT, Nat.reduceAdd, Nat.reduceMul, Nat.reduceLeDiff, Nat.le_refl, Int.natCast_zero, Int.toNat_natCast, Int.reduceToNat]
  all_goals exact rfl
end Go.Vc
