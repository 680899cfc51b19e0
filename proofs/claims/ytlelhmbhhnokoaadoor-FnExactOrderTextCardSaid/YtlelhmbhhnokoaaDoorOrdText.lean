/-
  Contracts: the text of an order.
-/
import Derived.Test.YtlelhmbhhnokoaaDoorOrd
import Derived.Test.YtlelhmbhhnokoaaDoorSplit
set_option linter.unusedVariables false
set_option linter.unusedSimpArgs false
set_option linter.unnecessarySimpa false
namespace Go.Vc
open Go.Proofs Go.Lib
set_option maxRecDepth 100000
def ordWord (x : ItM) : List UInt8 := (if x.key then [107] else [99]) ++ (itoa x.index ++ ([120] ++ itoa x.copies))
def ordText (os : List ItM) : List UInt8 := Lib.join (os.map ordWord) [32]
theorem join_snoc (xs : List (List UInt8)) (y : List UInt8) (c : UInt8) : Lib.join (xs ++ [y]) [c] = if xs = [] then y else Lib.join xs [c] ++ ([c] ++ y) := by
  cases xs with
  | nil => simp [join_one]
  | cons x r =>
    rw [if_neg (by simp), List.cons_append, join_cons, join_cons]
    simp [joinTail]
theorem ordText_nil : ordText [] = [] := rfl
theorem ordText_snoc (os : List ItM) (x : ItM) : ordText (os ++ [x]) = if os = [] then ordWord x else ordText os ++ ([32] ++ ordWord x) := by
  rw [ordText, List.map_append, List.map_singleton, join_snoc]
  cases os <;> simp [ordText]
theorem ordText_pos {os : List ItM} {i : Nat} (hi : i < os.length) (h0 : 0 < i) : ordText (os.take (i + 1)) = ordText (os.take i) ++ ([32] ++ ordWord os[i]) := by
  rw [List.take_succ_eq_append_getElem hi, ordText_snoc, if_neg]
  intro e
  have := congrArg List.length e
  rw [List.length_take, List.length_nil] at this; omega
theorem ordText_one {os : List ItM} (hi : 0 < os.length) : ordText (os.take 1) = ordWord os[0] := by
  have := ordText_snoc (os.take 0) os[0]
  rw [List.take_zero] at this
  rw [List.take_succ_eq_append_getElem hi, List.take_zero, this, if_pos rfl]
def It64 (x : ItM) : Prop := I64 x.index ∧ I64 x.copies
theorem ordWord_len {x : ItM} (h : It64 x) : (ordWord x).length ≤ 44 := by
  have h1 := itoa_len h.1
  have h2 := itoa_len h.2
  unfold ordWord
  split <;> simp <;> omega
theorem join_len32 (xs : List (List UInt8)) (n : Nat) (h : ∀ x ∈ xs, x.length ≤ n) : (Lib.join xs [32]).length ≤ xs.length * (n + 1) := by
  cases xs with
  | nil => simp [join_nil]
  | cons x r =>
    rw [join_length]
    have hl : ∀ (l : List (List UInt8)), (∀ x ∈ l, x.length ≤ n) → lens l ≤ l.length * n := by
      intro l
      induction l with
      | nil => intro _; simp [lens]
      | cons y t ih =>
        intro h
        have h1 := h y (List.mem_cons_self ..)
        have h2 := ih fun z hz => h z (List.mem_cons_of_mem _ hz)
        simp only [lens, List.map_cons, List.sum_cons, List.length_cons] at h2 ⊢
        rw [Nat.add_mul]; omega
    have := hl (x :: r) h
    simp only [List.length_cons, List.length_nil] at this ⊢
    rw [Nat.mul_succ]
    generalize (r.length + 1) * n = p at *
    omega
theorem ordText_len {os : List ItM} (h : ∀ x ∈ os, It64 x) : (ordText os).length ≤ os.length * 45 := by
  have := join_len32 (os.map ordWord) 44 (by
    intro y hy
    obtain ⟨x, hx, rfl⟩ := List.mem_map.1 hy
    exact ordWord_len (h x hx))
  simpa [ordText] using this
set_option maxHeartbeats 1000000 in
theorem c_orderText (os : List ItM) (h : os.length ≤ 1048576) (hx : ∀ x ∈ os, It64 x) : Fn Tryd.prog 35 [eIts os] true (· = eS (ordText os)) := by
  refine Fn.of_vcN 32 [.tmp 2] Tryd.func35 rfl rfl rfl rfl rfl (of_decide_eq_true rfl) ?_
  simp -dsimp -implicitDefEqProofs only [go_sem, ↓reduceIte, Nat.reduceEqDiff, Nat.reduceLT, Nat.reduceAdd, Nat.reduceMul, Nat.reduceLeDiff, Nat.le_refl, Int.natCast_zero, Int.toNat_natCast, Int.reduceToNat]
  refine Later.up [8, 9] [5, 20, 25, 27, 28] [7] os.length (fun _ => True) (fun i => [(3, .ref 7 0 0 i), (10, eI i)]) (fun i => [(7, .row 0 ⟨1, false⟩ true (((os.take i).map ordWord).map eS))]) trivial ?_ rfl (fun i hi _ => ?_) (fun _ => ?_)
  · simp -dsimp -implicitDefEqProofs only [go_sem, ↓reduceIte, Nat.reduceEqDiff, Nat.reduceLT, Nat.reduceAdd, Nat.reduceMul, Nat.reduceLeDiff, Nat.le_refl, Int.natCast_zero, Int.toNat_natCast, Int.reduceToNat]
  · have gi := get_some hi
    have h64 := hx os[i] (List.getElem_mem hi)
    have htk : os.take (i + 1) = os.take i ++ [os[i]] := List.take_succ_eq_append_getElem hi
    rw [htk]
    generalize os[i] = x at *
    have l1 := itoa_len h64.1
    have l2 := itoa_len h64.2
    have c1 := c_text h64.1
    have c2 := c_text h64.2
    rcases hk : x.key with _ | _
    · have hw : ordWord x = [99] ++ (itoa x.index ++ ([120] ++ itoa x.copies)) := by rw [ordWord, hk]; rfl
      rw [List.map_append, List.map_singleton, hw]
      clear hw
      simp -dsimp -implicitDefEqProofs only [pick_nil, pick_cons, look_nil, look_cons, dropB_nil, dropB_cons, inD_nil, inD_cons, inE_nil, inE_cons, or_t_l, or_f_l, Nat.reduceBEq, Nat.reduceDiv, Nat.reduceAdd, beq_self_eq_true, Bool.false_eq_true, Bool.or_false, ↓reduceIte, Nat.reduceEqDiff, List.cons_append, List.nil_append]
      simp -dsimp -implicitDefEqProofs only [go_sem, ↓reduceIte, Nat.reduceEqDiff, Nat.reduceLT, Nat.reduceAdd, Nat.reduceMul, Nat.reduceLeDiff, Nat.le_refl, Int.natCast_zero, Int.toNat_natCast, Int.reduceToNat, lt_len hi, gi, hk]
      ((repeat' (with_reducible refine And.intro ?_ ?_)); all_goals try (first | omega | (refine ⟨?_, ?_⟩ <;> omega) | (exact rfl)))
      try simp -dsimp -implicitDefEqProofs only [go_sem, ↓reduceIte, Nat.reduceEqDiff, Nat.reduceLT, Nat.reduceAdd, Nat.reduceMul, Nat.reduceLeDiff, Nat.le_refl, Int.natCast_zero, Int.toNat_natCast, Int.reduceToNat, hk]
      refine Later.draw mixed rfl ?_
      simp -dsimp -implicitDefEqProofs only [go_sem, ↓reduceIte, Nat.reduceEqDiff, Nat.reduceLT, Nat.reduceAdd, Nat.reduceMul, Nat.reduceLeDiff, Nat.le_refl, Int.natCast_zero, Int.toNat_natCast, Int.reduceToNat, hk]
      ((repeat' (with_reducible refine And.intro ?_ ?_)); all_goals try (first | omega | (refine ⟨?_, ?_⟩ <;> omega) | (exact rfl)))
      refine sCallX_one c1 ?_
      simp -dsimp -implicitDefEqProofs only [go_sem, ↓reduceIte, Nat.reduceEqDiff, Nat.reduceLT, Nat.reduceAdd, Nat.reduceMul, Nat.reduceLeDiff, Nat.le_refl, Int.natCast_zero, Int.toNat_natCast, Int.reduceToNat]
      ((repeat' (with_reducible refine And.intro ?_ ?_)); all_goals try (first | omega | (refine ⟨?_, ?_⟩ <;> omega) | (exact rfl)))
      refine sCallX_one c2 ?_
      simp -dsimp -implicitDefEqProofs only [go_sem, ↓reduceIte, Nat.reduceEqDiff, Nat.reduceLT, Nat.reduceAdd, Nat.reduceMul, Nat.reduceLeDiff, Nat.le_refl, Int.natCast_zero, Int.toNat_natCast, Int.reduceToNat]
      repeat' (with_reducible refine And.intro ?_ ?_)
      all_goals (first | omega | (refine ⟨?_, ?_⟩ <;> omega) | (exact rfl) | (simp; done) | trace_state)
    · have hw : ordWord x = [107] ++ (itoa x.index ++ ([120] ++ itoa x.copies)) := by rw [ordWord, hk]; rfl
      rw [List.map_append, List.map_singleton, hw]
      clear hw
      simp -dsimp -implicitDefEqProofs only [pick_nil, pick_cons, look_nil, look_cons, dropB_nil, dropB_cons, inD_nil, inD_cons, inE_nil, inE_cons, or_t_l, or_f_l, Nat.reduceBEq, Nat.reduceDiv, Nat.reduceAdd, beq_self_eq_true, Bool.false_eq_true, Bool.or_false, ↓reduceIte, Nat.reduceEqDiff, List.cons_append, List.nil_append]
      simp -dsimp -implicitDefEqProofs only [go_sem, ↓reduceIte, Nat.reduceEqDiff, Nat.reduceLT, Nat.reduceAdd, Nat.reduceMul, Nat.reduceLeDiff, Nat.le_refl, Int.natCast_zero, Int.toNat_natCast, Int.reduceToNat, lt_len hi, gi, hk]
      ((repeat' (with_reducible refine And.intro ?_ ?_)); all_goals try (first | omega | (refine ⟨?_, ?_⟩ <;> omega) | (exact rfl)))
      try simp -dsimp -implicitDefEqProofs only [go_sem, ↓reduceIte, Nat.reduceEqDiff, Nat.reduceLT, Nat.reduceAdd, Nat.reduceMul, Nat.reduceLeDiff, Nat.le_refl, Int.natCast_zero, Int.toNat_natCast, Int.reduceToNat, hk]
      refine Later.draw mixed rfl ?_
      simp -dsimp -implicitDefEqProofs only [go_sem, ↓reduceIte, Nat.reduceEqDiff, Nat.reduceLT, Nat.reduceAdd, Nat.reduceMul, Nat.reduceLeDiff, Nat.le_refl, Int.natCast_zero, Int.toNat_natCast, Int.reduceToNat, hk]
      ((repeat' (with_reducible refine And.intro ?_ ?_)); all_goals try (first | omega | (refine ⟨?_, ?_⟩ <;> omega) | (exact rfl)))
      refine sCallX_one c1 ?_
      simp -dsimp -implicitDefEqProofs only [go_sem, ↓reduceIte, Nat.reduceEqDiff, Nat.reduceLT, Nat.reduceAdd, Nat.reduceMul, Nat.reduceLeDiff, Nat.le_refl, Int.natCast_zero, Int.toNat_natCast, Int.reduceToNat]
      ((repeat' (with_reducible refine And.intro ?_ ?_)); all_goals try (first | omega | (refine ⟨?_, ?_⟩ <;> omega) | (exact rfl)))
      refine sCallX_one c2 ?_
      simp -dsimp -implicitDefEqProofs only [go_sem, ↓reduceIte, Nat.reduceEqDiff, Nat.reduceLT, Nat.reduceAdd, Nat.reduceMul, Nat.reduceLeDiff, Nat.le_refl, Int.natCast_zero, Int.toNat_natCast, Int.reduceToNat]
      repeat' (with_reducible refine And.intro ?_ ?_)
      all_goals (first | omega | (refine ⟨?_, ?_⟩ <;> omega) | (exact rfl) | (simp; done) | trace_state)
  · have hj := ordText_len hx
    simp -dsimp -implicitDefEqProofs only [pick_nil, pick_cons, look_nil, look_cons, dropB_nil, dropB_cons, inD_nil, inD_cons, inE_nil, inE_cons, or_t_l, or_f_l, Nat.reduceBEq, Nat.reduceDiv, Nat.reduceAdd, beq_self_eq_true, Bool.false_eq_true, Bool.or_false, ↓reduceIte, Nat.reduceEqDiff, List.cons_append, List.nil_append]
    simp -dsimp -implicitDefEqProofs only [go_sem, ↓reduceIte, Nat.reduceEqDiff, Nat.reduceLT, Nat.reduceAdd, Nat.reduceMul, Nat.reduceLeDiff, Nat.le_refl, Int.natCast_zero, Int.toNat_natCast, Int.reduceToNat, nlt_len, List.take_length]
    have e : List.take os.length (List.map eS (List.map ordWord os)) = List.map eS (List.map ordWord os) := List.take_of_length_le (by simp)
    simp only [e]
    refine sCallT_one (c_Join (os.map ordWord) [32] (by simp; omega) (by unfold ordText at hj; omega)) ?_
    simp -dsimp -implicitDefEqProofs only [go_sem, ↓reduceIte, Nat.reduceEqDiff, Nat.reduceLT, Nat.reduceAdd, Nat.reduceMul, Nat.reduceLeDiff, Nat.le_refl, Int.natCast_zero, Int.toNat_natCast, Int.reduceToNat]
    all_goals exact rfl
def ItOk (x : ItM) : Prop := (0 ≤ x.index ∧ x.index ≤ 1000000) ∧ 0 ≤ x.copies ∧ x.copies ≤ 1000000
theorem ItOk.i64 {x : ItM} (h : ItOk x) : It64 x := by unfold ItOk at h; unfold It64 I64; omega
theorem isOrd_ok {t : List (List Int)} {os : List ItM} (h : isOrd t os = true) (ht : t.length ≤ 1048576 / 2) (h0 : (t.getD 0 []).length ≤ 1048576 / 2) : ∀ x ∈ os, ItOk x := by
  intro x hx
  simp only [isOrd, Bool.and_eq_true, List.all_eq_true] at h
  have := h.1 _ hx
  simp only [itOk, isIn, Bool.and_eq_true, decide_eq_true_eq] at this
  unfold ItOk
  split at this <;> omega
set_option maxHeartbeats 1000000 in
theorem c_l29Text (os : List ItM) (h : os.length ≤ 1048576) (hx : ∀ x ∈ os, ItOk x) : Fn Tryd.prog 31 [eIts os] true (· = eS (ordText os)) := by
  refine Fn.of_vcN 40 [.tmp 2] Tryd.func31 rfl rfl rfl rfl rfl (of_decide_eq_true rfl) ?_
  have hlen : ∀ i, (ordText (os.take i)).length ≤ 47185920 := fun i => by
    have h1 := ordText_len (os := os.take i) (fun x hm => (hx x (List.mem_of_mem_take hm)).i64)
    have h2 : (os.take i).length ≤ 1048576 := by simp; omega
    have h3 : (os.take i).length * 45 ≤ 1048576 * 45 := Nat.mul_le_mul_right _ h2
    omega
  simp -dsimp -implicitDefEqProofs only [go_sem, ↓reduceIte, Nat.reduceEqDiff, Nat.reduceLT, Nat.reduceAdd, Nat.reduceMul, Nat.reduceLeDiff, Nat.le_refl, Int.natCast_zero, Int.toNat_natCast, Int.reduceToNat]
  refine Later.up [0] [8, 29, 37] [] os.length (fun _ => True) (fun i => [(3, eS (ordText (os.take i))), (4, eI i)]) (fun _ => []) trivial ?_ rfl (fun i hi _ => ?_) (fun _ => ?_)
  · simp -dsimp -implicitDefEqProofs only [go_sem, ↓reduceIte, Nat.reduceEqDiff, Nat.reduceLT, Nat.reduceAdd, Nat.reduceMul, Nat.reduceLeDiff, Nat.le_refl, Int.natCast_zero, Int.toNat_natCast, Int.reduceToNat]
    exact rfl
  · have gi := get_some hi
    have h64 := hx os[i] (List.getElem_mem hi)
    have hl := hlen i
    have hwl := ordWord_len h64.i64
    have l1 := itoa_len h64.i64.1
    have l2 := itoa_len h64.i64.2
    have c1 := c_l01DecI os[i].index (by unfold ItOk at h64; omega)
    have c2 := c_l01DecI os[i].copies (by unfold ItOk at h64; omega)
    have hwn : ∀ b, os[i].key = b → ordWord os[i] = (if b then [107] else [99]) ++ (itoa os[i].index ++ ([120] ++ itoa os[i].copies)) := fun b e => by rw [ordWord, e]
    rcases Nat.eq_zero_or_pos i with rfl | h0
    · have hT := ordText_one hi
      rw [hT]
      clear hT hl hlen
      generalize os[0] = x at *
      rcases hk : x.key with _ | _
      · have hw := hwn false hk
        clear hwn
        rw [hw]
        clear hw
        simp -dsimp -implicitDefEqProofs only [pick_nil, pick_cons, look_nil, look_cons, dropB_nil, dropB_cons, inD_nil, inD_cons, inE_nil, inE_cons, or_t_l, or_f_l, Nat.reduceBEq, Nat.reduceDiv, Nat.reduceAdd, beq_self_eq_true, Bool.false_eq_true, Bool.or_false, ↓reduceIte, Nat.reduceEqDiff, List.cons_append, List.nil_append]
        have d0 : decide ((0 : Int) > 0) = false := rfl
        have dl : decide ((0 : Int) < (os.length : Int)) = true := decide_eq_true (by omega)
        simp -dsimp -implicitDefEqProofs only [go_sem, ↓reduceIte, Nat.reduceEqDiff, Nat.reduceLT, Nat.reduceAdd, Nat.reduceMul, Nat.reduceLeDiff, Nat.le_refl, Int.natCast_zero, Int.toNat_natCast, Int.reduceToNat, dl, gi, hk, d0, ordText_nil]
        ((repeat' (with_reducible refine And.intro ?_ ?_)); all_goals try (first | omega | (refine ⟨?_, ?_⟩ <;> omega) | (exact rfl)))
        refine Later.draw mixed rfl ?_
        simp -dsimp -implicitDefEqProofs only [go_sem, ↓reduceIte, Nat.reduceEqDiff, Nat.reduceLT, Nat.reduceAdd, Nat.reduceMul, Nat.reduceLeDiff, Nat.le_refl, Int.natCast_zero, Int.toNat_natCast, Int.reduceToNat, gi, ordText_nil]
        ((repeat' (with_reducible refine And.intro ?_ ?_)); all_goals try (first | omega | (refine ⟨?_, ?_⟩ <;> omega) | (exact rfl)))
        refine sCallX_one c1 ?_
        simp -dsimp -implicitDefEqProofs only [go_sem, ↓reduceIte, Nat.reduceEqDiff, Nat.reduceLT, Nat.reduceAdd, Nat.reduceMul, Nat.reduceLeDiff, Nat.le_refl, Int.natCast_zero, Int.toNat_natCast, Int.reduceToNat, gi, ordText_nil]
        ((repeat' (with_reducible refine And.intro ?_ ?_)); all_goals try (first | omega | (refine ⟨?_, ?_⟩ <;> omega) | (exact rfl)))
        refine sCallX_one c2 ?_
        simp -dsimp -implicitDefEqProofs only [go_sem, ↓reduceIte, Nat.reduceEqDiff, Nat.reduceLT, Nat.reduceAdd, Nat.reduceMul, Nat.reduceLeDiff, Nat.le_refl, Int.natCast_zero, Int.toNat_natCast, Int.reduceToNat]
        repeat' (with_reducible refine And.intro ?_ ?_)
        all_goals first | omega | (refine ⟨?_, ?_⟩ <;> omega) | (exact rfl) | (simp [ordText_nil]; done) | trace_state
      · have hw := hwn true hk
        clear hwn
        rw [hw]
        clear hw
        simp -dsimp -implicitDefEqProofs only [pick_nil, pick_cons, look_nil, look_cons, dropB_nil, dropB_cons, inD_nil, inD_cons, inE_nil, inE_cons, or_t_l, or_f_l, Nat.reduceBEq, Nat.reduceDiv, Nat.reduceAdd, beq_self_eq_true, Bool.false_eq_true, Bool.or_false, ↓reduceIte, Nat.reduceEqDiff, List.cons_append, List.nil_append]
        have d0 : decide ((0 : Int) > 0) = false := rfl
        have dl : decide ((0 : Int) < (os.length : Int)) = true := decide_eq_true (by omega)
        simp -dsimp -implicitDefEqProofs only [go_sem, ↓reduceIte, Nat.reduceEqDiff, Nat.reduceLT, Nat.reduceAdd, Nat.reduceMul, Nat.reduceLeDiff, Nat.le_refl, Int.natCast_zero, Int.toNat_natCast, Int.reduceToNat, dl, gi, hk, d0, ordText_nil]
        ((repeat' (with_reducible refine And.intro ?_ ?_)); all_goals try (first | omega | (refine ⟨?_, ?_⟩ <;> omega) | (exact rfl)))
        refine Later.draw mixed rfl ?_
        simp -dsimp -implicitDefEqProofs only [go_sem, ↓reduceIte, Nat.reduceEqDiff, Nat.reduceLT, Nat.reduceAdd, Nat.reduceMul, Nat.reduceLeDiff, Nat.le_refl, Int.natCast_zero, Int.toNat_natCast, Int.reduceToNat, gi, ordText_nil]
        ((repeat' (with_reducible refine And.intro ?_ ?_)); all_goals try (first | omega | (refine ⟨?_, ?_⟩ <;> omega) | (exact rfl)))
        refine sCallX_one c1 ?_
        simp -dsimp -implicitDefEqProofs only [go_sem, ↓reduceIte, Nat.reduceEqDiff, Nat.reduceLT, Nat.reduceAdd, Nat.reduceMul, Nat.reduceLeDiff, Nat.le_refl, Int.natCast_zero, Int.toNat_natCast, Int.reduceToNat, gi, ordText_nil]
        ((repeat' (with_reducible refine And.intro ?_ ?_)); all_goals try (first | omega | (refine ⟨?_, ?_⟩ <;> omega) | (exact rfl)))
        refine sCallX_one c2 ?_
        simp -dsimp -implicitDefEqProofs only [go_sem, ↓reduceIte, Nat.reduceEqDiff, Nat.reduceLT, Nat.reduceAdd, Nat.reduceMul, Nat.reduceLeDiff, Nat.le_refl, Int.natCast_zero, Int.toNat_natCast, Int.reduceToNat]
        repeat' (with_reducible refine And.intro ?_ ?_)
        all_goals first | omega | (refine ⟨?_, ?_⟩ <;> omega) | (exact rfl) | (simp [ordText_nil]; done) | trace_state
    · have hT := ordText_pos hi h0
      have d0 : decide ((i : Int) > 0) = true := decide_eq_true (by omega)
      rw [hT]
      clear hT hlen
      generalize ordText (os.take i) = q at *
      generalize os[i] = x at *
      rcases hk : x.key with _ | _
      · have hw := hwn false hk
        clear hwn
        rw [hw]
        clear hw
        simp -dsimp -implicitDefEqProofs only [pick_nil, pick_cons, look_nil, look_cons, dropB_nil, dropB_cons, inD_nil, inD_cons, inE_nil, inE_cons, or_t_l, or_f_l, Nat.reduceBEq, Nat.reduceDiv, Nat.reduceAdd, beq_self_eq_true, Bool.false_eq_true, Bool.or_false, ↓reduceIte, Nat.reduceEqDiff, List.cons_append, List.nil_append]
        simp -dsimp -implicitDefEqProofs only [go_sem, ↓reduceIte, Nat.reduceEqDiff, Nat.reduceLT, Nat.reduceAdd, Nat.reduceMul, Nat.reduceLeDiff, Nat.le_refl, Int.natCast_zero, Int.toNat_natCast, Int.reduceToNat, lt_len hi, gi, hk, d0]
        repeat' (with_reducible refine And.intro ?_ ?_)
        all_goals try (first | omega | (refine ⟨?_, ?_⟩ <;> omega))
        refine Later.draw mixed rfl ?_
        simp -dsimp -implicitDefEqProofs only [go_sem, ↓reduceIte, Nat.reduceEqDiff, Nat.reduceLT, Nat.reduceAdd, Nat.reduceMul, Nat.reduceLeDiff, Nat.le_refl, Int.natCast_zero, Int.toNat_natCast, Int.reduceToNat, gi]
        ((repeat' (with_reducible refine And.intro ?_ ?_)); all_goals try (first | omega | (refine ⟨?_, ?_⟩ <;> omega) | (exact rfl)))
        refine sCallX_one c1 ?_
        simp -dsimp -implicitDefEqProofs only [go_sem, ↓reduceIte, Nat.reduceEqDiff, Nat.reduceLT, Nat.reduceAdd, Nat.reduceMul, Nat.reduceLeDiff, Nat.le_refl, Int.natCast_zero, Int.toNat_natCast, Int.reduceToNat, gi]
        ((repeat' (with_reducible refine And.intro ?_ ?_)); all_goals try (first | omega | (refine ⟨?_, ?_⟩ <;> omega) | (exact rfl)))
        refine sCallX_one c2 ?_
        simp -dsimp -implicitDefEqProofs only [go_sem, ↓reduceIte, Nat.reduceEqDiff, Nat.reduceLT, Nat.reduceAdd, Nat.reduceMul, Nat.reduceLeDiff, Nat.le_refl, Int.natCast_zero, Int.toNat_natCast, Int.reduceToNat]
        repeat' (with_reducible refine And.intro ?_ ?_)
        all_goals first | omega | (refine ⟨?_, ?_⟩ <;> omega) | (exact rfl) | (simp; done) | trace_state
      · have hw := hwn true hk
        clear hwn
        rw [hw]
        clear hw
        simp -dsimp -implicitDefEqProofs only [pick_nil, pick_cons, look_nil, look_cons, dropB_nil, dropB_cons, inD_nil, inD_cons, inE_nil, inE_cons, or_t_l, or_f_l, Nat.reduceBEq, Nat.reduceDiv, Nat.reduceAdd, beq_self_eq_true, Bool.false_eq_true, Bool.or_false, ↓reduceIte, Nat.reduceEqDiff, List.cons_append, List.nil_append]
        simp -dsimp -implicitDefEqProofs only [go_sem, ↓reduceIte, Nat.reduceEqDiff, Nat.reduceLT, Nat.reduceAdd, Nat.reduceMul, Nat.reduceLeDiff, Nat.le_refl, Int.natCast_zero, Int.toNat_natCast, Int.reduceToNat, lt_len hi, gi, hk, d0]
        repeat' (with_reducible refine And.intro ?_ ?_)
        all_goals try (first | omega | (refine ⟨?_, ?_⟩ <;> omega))
        refine Later.draw mixed rfl ?_
        simp -dsimp -implicitDefEqProofs only [go_sem, ↓reduceIte, Nat.reduceEqDiff, Nat.reduceLT, Nat.reduceAdd, Nat.reduceMul, Nat.reduceLeDiff, Nat.le_refl, Int.natCast_zero, Int.toNat_natCast, Int.reduceToNat, gi]
        ((repeat' (with_reducible refine And.intro ?_ ?_)); all_goals try (first | omega | (refine ⟨?_, ?_⟩ <;> omega) | (exact rfl)))
        refine sCallX_one c1 ?_
        simp -dsimp -implicitDefEqProofs only [go_sem, ↓reduceIte, Nat.reduceEqDiff, Nat.reduceLT, Nat.reduceAdd, Nat.reduceMul, Nat.reduceLeDiff, Nat.le_refl, Int.natCast_zero, Int.toNat_natCast, Int.reduceToNat, gi]
        ((repeat' (with_reducible refine And.intro ?_ ?_)); all_goals try (first | omega | (refine ⟨?_, ?_⟩ <;> omega) | (exact rfl)))
        refine sCallX_one c2 ?_
        simp -dsimp -implicitDefEqProofs only [go_sem, ↓reduceIte, Nat.reduceEqDiff, Nat.reduceLT, Nat.reduceAdd, Nat.reduceMul, Nat.reduceLeDiff, Nat.le_refl, Int.natCast_zero, Int.toNat_natCast, Int.reduceToNat]
        repeat' (with_reducible refine And.intro ?_ ?_)
        all_goals first | omega | (refine ⟨?_, ?_⟩ <;> omega) | (exact rfl) | (simp; done) | trace_state
  · simp -dsimp -implicitDefEqProofs only [pick_nil, pick_cons, look_nil, look_cons, dropB_nil, dropB_cons, inD_nil, inD_cons, inE_nil, inE_cons, or_t_l, or_f_l, Nat.reduceBEq, Nat.reduceDiv, Nat.reduceAdd, beq_self_eq_true, Bool.false_eq_true, Bool.or_false, ↓reduceIte, Nat.reduceEqDiff, List.cons_append, List.nil_append]
    simp -dsimp -implicitDefEqProofs only [go_sem, ↓reduceIte, Nat.reduceEqDiff, Nat.reduceLT, Nat.reduceAdd, Nat.reduceMul, Nat.reduceLeDiff, Nat.le_refl, Int.natCast_zero, Int.toNat_natCast, Int.reduceToNat, nlt_len, List.take_length]
end Go.Vc
