/-
  Contracts: taking an item off an order.
-/
import Derived.Test.YtlelhmbhhnokoaaOrd
import Derived.Test.YtlelhmbhhnokoaaDelete
set_option linter.unusedVariables false
set_option linter.unusedSimpArgs false
set_option linter.unnecessarySimpa false
namespace Go.Vc
open Go.Proofs
set_option maxRecDepth 100000
def decIt (x : ItM) : ItM := ⟨x.key, x.index, x.copies - 1⟩
def takeAt (os : List ItM) (i : Nat) : List ItM := if (os.getD i default).copies - 1 = 0 then os.eraseIdx i else os.set i (decIt (os.getD i default))
def takeItem (m : MkM) (t : List (List Int)) (os : List ItM) (k : Int) : List ItM × Int :=
  if ordCode m t os = 0 then (if isIn k 0 ((os.length : Int) - 1) then (takeAt os k.toNat, 0) else ([], 2)) else ([], ordCode m t os)
def tkS (os : List ItM) (k : Int) : Nat → List ItM
  | 0 => []
  | i + 1 => if (if (i : Int) = k then decIt (os.getD i default) else os.getD i default).copies > 0 then tkS os k i ++ [if (i : Int) = k then decIt (os.getD i default) else os.getD i default] else tkS os k i
theorem tkS_len (os : List ItM) (k : Int) : ∀ i, (tkS os k i).length ≤ i
  | 0 => Nat.le_refl _
  | i + 1 => by
    have := tkS_len os k i
    rw [tkS]
    generalize (if (i : Int) = k then decIt (os.getD i default) else os.getD i default) = x
    split
    · simp; omega
    · omega
theorem ord_copies {t : List (List Int)} {os : List ItM} (h : isOrd t os = true) {i : Nat} (hi : i < os.length) : 1 ≤ os[i].copies ∧ os[i].copies ≤ 50 := by
  simp only [isOrd, Bool.and_eq_true, List.all_eq_true] at h
  have := h.1 _ (List.getElem_mem hi)
  simp only [itOk, isIn, Bool.and_eq_true, decide_eq_true_eq] at this
  omega
theorem getD_at {os : List ItM} {i : Nat} (hi : i < os.length) : os.getD i default = os[i] := by
  simp [List.getD_eq_getElem?_getD, hi]
theorem tkS_low {t : List (List Int)} {os : List ItM} (h : isOrd t os = true) (k : Nat) : ∀ i, i ≤ k → i ≤ os.length → tkS os k i = os.take i
  | 0, _, _ => by simp [tkS]
  | i + 1, hk, hl => by
    have hi : i < os.length := by omega
    have hc := ord_copies h hi
    have hne : ¬ ((i : Int) = (k : Int)) := by omega
    rw [tkS, if_neg hne, getD_at hi, if_pos (by omega), tkS_low h k i (by omega) (by omega), List.take_succ_eq_append_getElem hi]
theorem take_erase {α : Type} (xs : List α) (k i : Nat) (h : k < i) (hi : i ≤ xs.length) : (xs.eraseIdx k).take (i - 1) = (xs.take i).eraseIdx k := by
  apply List.ext_getElem?
  intro p
  rw [List.getElem?_take, List.getElem?_eraseIdx, List.getElem?_eraseIdx, List.getElem?_take, List.getElem?_take]
  split <;> split <;> (try split) <;> first | rfl | omega
theorem tkS_high {t : List (List Int)} {os : List ItM} (h : isOrd t os = true) (k : Nat) (hk : k < os.length) : ∀ i, k < i → i ≤ os.length → tkS os k i = takeAt (os.take i) k
  | 0, hki, _ => absurd hki (Nat.not_lt_zero _)
  | i + 1, hki, hl => by
    have hi : i < os.length := by omega
    have hc := ord_copies h hi
    have hg : (os.take (i + 1)).getD k default = os[k] := by
      rw [List.getD_eq_getElem?_getD, List.getElem?_take, if_pos hki, List.getElem?_eq_getElem hk]; rfl
    by_cases e : i = k
    · subst e
      rw [tkS, if_pos rfl, tkS_low h i i (Nat.le_refl _) (by omega), takeAt, hg, getD_at hi]
      by_cases h0 : os[i].copies - 1 = 0
      · rw [if_neg (by simp only [decIt]; omega), if_pos h0, List.take_succ_eq_append_getElem hi]
        have hl : (os.take i).length = i := by simp; omega
        rw [List.eraseIdx_append_of_length_le (by omega), hl, Nat.sub_self]; simp
      · rw [if_pos (by simp only [decIt]; omega), if_neg h0, List.take_succ_eq_append_getElem hi]
        have hl : (os.take i).length = i := by simp; omega
        rw [List.set_append_right _ _ (by omega), hl, Nat.sub_self]; rfl
    · have hne : ¬ ((i : Int) = (k : Int)) := by omega
      have hgi : (os.take i).getD k default = os[k] := by
        rw [List.getD_eq_getElem?_getD, List.getElem?_take, if_pos (by omega), List.getElem?_eq_getElem hk]; rfl
      rw [tkS, if_neg hne, getD_at hi, if_pos (by omega), tkS_high h k hk i (by omega) (by omega), takeAt, takeAt, hg, hgi, List.take_succ_eq_append_getElem hi]
      have hl : (os.take i).length = i := by simp; omega
      split
      · rw [List.eraseIdx_append_of_lt_length (by omega)]
      · rw [List.set_append_left _ _ (by omega)]
theorem tkS_all {t : List (List Int)} {os : List ItM} (h : isOrd t os = true) (k : Nat) (hk : k < os.length) : tkS os k os.length = takeAt os k := by
  rw [tkS_high h k hk _ hk (Nat.le_refl _), List.take_length]
theorem ordCode_zero {m : MkM} {t : List (List Int)} {os : List ItM} (h : ordCode m t os = 0) : isSy m t = true ∧ isOrd t os = true := by
  unfold ordCode at h
  split at h
  · split at h
    · exact ⟨‹_›, ‹_›⟩
    · cases h
  · cases h
theorem takeItem_no {m : MkM} {t : List (List Int)} {os : List ItM} {k : Int} (h : ¬ ordCode m t os = 0) : takeItem m t os k = ([], ordCode m t os) := by rw [takeItem, if_neg h]
set_option maxHeartbeats 2000000 in
theorem c_sTakeItem (m : MkM) (t : List (List Int)) (os : List ItM) (h : t.length ≤ 1048576) (h2 : ∀ x ∈ t, x.length ≤ 1048576) (h3 : os.length ≤ 1048576) (k : Int) : Fn Try.prog 7 [eSy m t, eIts os, eI k] true (· = .tup [eIts (takeItem m t os k).1, eI (takeItem m t os k).2]) := by
  refine Fn.of_vcN 54 [.tmp 6, .tmp 7] Try.func7 rfl rfl rfl rfl rfl (of_decide_eq_true rfl) ?_
  have hcode := c_l29System m t os h h2 h3
  rcases hb : (ordCode m t os == 0) with _ | _
  · have hF := takeItem_no (k := k) (m := m) (t := t) (os := os) (by simpa using hb)
    have hb2 : (ordCode m t os != 0) = true := by simp [bne, hb]
    rw [hF]
    clear hF
    generalize ordCode m t os = c at *
    simp -dsimp -implicitDefEqProofs only [go_sem, ↓reduceIte, Nat.reduceEqDiff, Nat.reduceLT, Nat.reduceAdd, Nat.reduceMul, Nat.reduceLeDiff, Nat.le_refl, Int.natCast_zero, Int.toNat_natCast, Int.reduceToNat]
    (refine sCallT_one (hcode) ?_; try simp -dsimp -implicitDefEqProofs only [go_sem, ↓reduceIte, Nat.reduceEqDiff, Nat.reduceLT, Nat.reduceAdd, Nat.reduceMul, Nat.reduceLeDiff, Nat.le_refl, Int.natCast_zero, Int.toNat_natCast, Int.reduceToNat, *])
    all_goals try simp -dsimp -implicitDefEqProofs only [go_sem, ↓reduceIte, Nat.reduceEqDiff, Nat.reduceLT, Nat.reduceAdd, Nat.reduceMul, Nat.reduceLeDiff, Nat.le_refl, Int.natCast_zero, Int.toNat_natCast, Int.reduceToNat, hb, hb2]
    all_goals first | omega | (exact rfl) | (simp; done) | trace_state
  · have hb0 : ordCode m t os = 0 := by simpa using hb
    obtain ⟨k1, k2⟩ := ordCode_zero hb0
    have hF : takeItem m t os k = if isIn k 0 ((os.length : Int) - 1) then (takeAt os k.toNat, 0) else ([], 2) := by rw [takeItem, if_pos hb0]
    rw [hF]
    clear hF
    rw [hb0] at hcode
    rcases hk : isIn k 0 ((os.length : Int) - 1) with _ | _
    · have hin := c_l01In k 0 ((os.length : Int) - 1)
      rw [hk] at hin
      simp -dsimp -implicitDefEqProofs only [go_sem, ↓reduceIte, Nat.reduceEqDiff, Nat.reduceLT, Nat.reduceAdd, Nat.reduceMul, Nat.reduceLeDiff, Nat.le_refl, Int.natCast_zero, Int.toNat_natCast, Int.reduceToNat]
      (refine sCallT_one (hcode) ?_; try simp -dsimp -implicitDefEqProofs only [go_sem, ↓reduceIte, Nat.reduceEqDiff, Nat.reduceLT, Nat.reduceAdd, Nat.reduceMul, Nat.reduceLeDiff, Nat.le_refl, Int.natCast_zero, Int.toNat_natCast, Int.reduceToNat, *])
      repeat' (with_reducible refine And.intro ?_ ?_)
      all_goals try (first | omega | (refine ⟨?_, ?_⟩ <;> omega))
      refine sCallT_one hin ?_
      have n2 : ((2 : Int) != 0) = true := rfl
      simp -dsimp -implicitDefEqProofs only [go_sem, ↓reduceIte, Nat.reduceEqDiff, Nat.reduceLT, Nat.reduceAdd, Nat.reduceMul, Nat.reduceLeDiff, Nat.le_refl, Int.natCast_zero, Int.toNat_natCast, Int.reduceToNat, n2]
      all_goals first | omega | (exact rfl) | (simp; done) | trace_state
    · have hin := c_l01In k 0 ((os.length : Int) - 1)
      rw [hk] at hin
      have hk2 : 0 ≤ k ∧ k ≤ (os.length : Int) - 1 := by simpa [isIn] using hk
      obtain ⟨n, rfl⟩ : ∃ n : Nat, k = n := ⟨k.toNat, by omega⟩
      have hn : n < os.length := by omega
      have hall := tkS_all k2 n hn
      have hle := tkS_len os n
      simp only [Int.toNat_natCast, if_true]
      rw [← hall]
      simp -dsimp -implicitDefEqProofs only [go_sem, ↓reduceIte, Nat.reduceEqDiff, Nat.reduceLT, Nat.reduceAdd, Nat.reduceMul, Nat.reduceLeDiff, Nat.le_refl, Int.natCast_zero, Int.toNat_natCast, Int.reduceToNat]
      (refine sCallT_one (hcode) ?_; try simp -dsimp -implicitDefEqProofs only [go_sem, ↓reduceIte, Nat.reduceEqDiff, Nat.reduceLT, Nat.reduceAdd, Nat.reduceMul, Nat.reduceLeDiff, Nat.le_refl, Int.natCast_zero, Int.toNat_natCast, Int.reduceToNat, *])
      repeat' (with_reducible refine And.intro ?_ ?_)
      all_goals try (first | omega | (refine ⟨?_, ?_⟩ <;> omega))
      refine sCallT_one hin ?_
      simp -dsimp -implicitDefEqProofs only [go_sem, ↓reduceIte, Nat.reduceEqDiff, Nat.reduceLT, Nat.reduceAdd, Nat.reduceMul, Nat.reduceLeDiff, Nat.le_refl, Int.natCast_zero, Int.toNat_natCast, Int.reduceToNat]
      refine Later.up [1, 2] [11, 31, 51, 52] [28] os.length (fun _ => True) (fun i => [(9, .ref 28 0 0 (tkS os n i).length), (10, eI i)]) (fun i => [(28, .row 0 ⟨3, true⟩ true ((tkS os n i).map eIt))]) trivial ?_ rfl (fun i hi _ => ?_) (fun _ => ?_)
      · simp -dsimp -implicitDefEqProofs only [go_sem, ↓reduceIte, Nat.reduceEqDiff, Nat.reduceLT, Nat.reduceAdd, Nat.reduceMul, Nat.reduceLeDiff, Nat.le_refl, Int.natCast_zero, Int.toNat_natCast, Int.reduceToNat]
        simp [tkS]
      · have gi := get_some hi
        have hl := hle i
        have hx := ord_copies k2 hi
        have hs : tkS os n (i + 1) = if (if (i : Int) = n then decIt os[i] else os[i]).copies > 0 then tkS os n i ++ [if (i : Int) = n then decIt os[i] else os[i]] else tkS os n i := by rw [tkS, getD_at hi]
        rw [hs]
        clear hs hall
        generalize os[i] = x at *
        generalize tkS os n i = q at *
        rcases hin : ((i : Int) == (n : Int)) with _ | _
        · have e1 : ¬ (i : Int) = (n : Int) := by simpa using hin
          have hg : decide (x.copies > 0) = true := decide_eq_true (by omega)
          simp only [if_neg e1]
          rw [if_pos (by omega)]
          simp -dsimp -implicitDefEqProofs only [pick_nil, pick_cons, look_nil, look_cons, dropB_nil, dropB_cons, inD_nil, inD_cons, inE_nil, inE_cons, or_t_l, or_f_l, Nat.reduceBEq, Nat.reduceDiv, Nat.reduceAdd, beq_self_eq_true, Bool.false_eq_true, Bool.or_false, ↓reduceIte, Nat.reduceEqDiff, List.cons_append, List.nil_append]
          simp -dsimp -implicitDefEqProofs only [go_sem, ↓reduceIte, Nat.reduceEqDiff, Nat.reduceLT, Nat.reduceAdd, Nat.reduceMul, Nat.reduceLeDiff, Nat.le_refl, Int.natCast_zero, Int.toNat_natCast, Int.reduceToNat, lt_len hi, gi, hin, hg]
          repeat' (with_reducible refine And.intro ?_ ?_)
          all_goals first | omega | (refine ⟨?_, ?_⟩ <;> omega) | (exact rfl) | (simp; done) | trace_state
        · have e1 : (i : Int) = (n : Int) := by simpa using hin
          simp only [if_pos e1]
          rcases hg : decide (x.copies - 1 > 0) with _ | _
          · have hg2 := of_decide_eq_false hg
            rw [if_neg (by simp only [decIt]; omega)]
            simp -dsimp -implicitDefEqProofs only [pick_nil, pick_cons, look_nil, look_cons, dropB_nil, dropB_cons, inD_nil, inD_cons, inE_nil, inE_cons, or_t_l, or_f_l, Nat.reduceBEq, Nat.reduceDiv, Nat.reduceAdd, beq_self_eq_true, Bool.false_eq_true, Bool.or_false, ↓reduceIte, Nat.reduceEqDiff, List.cons_append, List.nil_append]
            simp -dsimp -implicitDefEqProofs only [go_sem, ↓reduceIte, Nat.reduceEqDiff, Nat.reduceLT, Nat.reduceAdd, Nat.reduceMul, Nat.reduceLeDiff, Nat.le_refl, Int.natCast_zero, Int.toNat_natCast, Int.reduceToNat, lt_len hi, gi, hin, hg]
            repeat' (with_reducible refine And.intro ?_ ?_)
            all_goals try simp -dsimp -implicitDefEqProofs only [go_sem, ↓reduceIte, Nat.reduceEqDiff, Nat.reduceLT, Nat.reduceAdd, Nat.reduceMul, Nat.reduceLeDiff, Nat.le_refl, Int.natCast_zero, Int.toNat_natCast, Int.reduceToNat, hg]
            repeat' (with_reducible refine And.intro ?_ ?_)
            all_goals first | omega | (refine ⟨?_, ?_⟩ <;> omega) | (exact rfl) | (simp; done) | trace_state
          · have hg2 := of_decide_eq_true hg
            rw [if_pos (by simp only [decIt]; omega)]
            simp -dsimp -implicitDefEqProofs only [pick_nil, pick_cons, look_nil, look_cons, dropB_nil, dropB_cons, inD_nil, inD_cons, inE_nil, inE_cons, or_t_l, or_f_l, Nat.reduceBEq, Nat.reduceDiv, Nat.reduceAdd, beq_self_eq_true, Bool.false_eq_true, Bool.or_false, ↓reduceIte, Nat.reduceEqDiff, List.cons_append, List.nil_append]
            simp -dsimp -implicitDefEqProofs only [go_sem, ↓reduceIte, Nat.reduceEqDiff, Nat.reduceLT, Nat.reduceAdd, Nat.reduceMul, Nat.reduceLeDiff, Nat.le_refl, Int.natCast_zero, Int.toNat_natCast, Int.reduceToNat, lt_len hi, gi, hin, hg]
            repeat' (with_reducible refine And.intro ?_ ?_)
            all_goals try (first | omega | (refine ⟨?_, ?_⟩ <;> omega))
            all_goals try simp -dsimp -implicitDefEqProofs only [go_sem, ↓reduceIte, Nat.reduceEqDiff, Nat.reduceLT, Nat.reduceAdd, Nat.reduceMul, Nat.reduceLeDiff, Nat.le_refl, Int.natCast_zero, Int.toNat_natCast, Int.reduceToNat, hg]
            repeat' (with_reducible refine And.intro ?_ ?_)
            all_goals first | omega | (refine ⟨?_, ?_⟩ <;> omega) | (exact rfl) | (simp [decIt]; done) | trace_state
      · have hl := hle os.length
        simp -dsimp -implicitDefEqProofs only [pick_nil, pick_cons, look_nil, look_cons, dropB_nil, dropB_cons, inD_nil, inD_cons, inE_nil, inE_cons, or_t_l, or_f_l, Nat.reduceBEq, Nat.reduceDiv, Nat.reduceAdd, beq_self_eq_true, Bool.false_eq_true, Bool.or_false, ↓reduceIte, Nat.reduceEqDiff, List.cons_append, List.nil_append]
        simp -dsimp -implicitDefEqProofs only [go_sem, ↓reduceIte, Nat.reduceEqDiff, Nat.reduceLT, Nat.reduceAdd, Nat.reduceMul, Nat.reduceLeDiff, Nat.le_refl, Int.natCast_zero, Int.toNat_natCast, Int.reduceToNat, nlt_len]
        repeat' (with_reducible refine And.intro ?_ ?_)
        all_goals first | omega | (exact rfl) | (simp; done) | trace_state
theorem itZero : ∀ u, u ∈ ([.bool false, .int .i64 0, .int .i64 0] : List Value) → u.oneCell' = true := by
  intro v hv
  simp only [List.mem_cons, List.not_mem_nil, or_false] at hv
  rcases hv with rfl | rfl | rfl <;> rfl
theorem c_CloneIt (os : List ItM) (h : os.length ≤ 1048576) : Fn Try.prog 26 [eIts os] true (· = eIts os) := by
  refine Fn.of_vcN 8 [.tmp 2] Try.func26 rfl rfl rfl rfl rfl (of_decide_eq_true rfl) ?_
  simp -dsimp -implicitDefEqProofs only [go_sem, ↓reduceIte, Nat.reduceEqDiff, Nat.reduceLT, Nat.reduceAdd, Nat.reduceMul, Nat.reduceLeDiff, Nat.le_refl, Int.natCast_zero, Int.toNat_natCast, Int.reduceToNat]
  intro c hc
  repeat' first
    | (refine Br.intro (fun _ => ?_) (fun _ => ?_) <;> try simp -dsimp -implicitDefEqProofs only [go_sem, ↓reduceIte, Nat.reduceEqDiff, Nat.reduceLT, Nat.reduceAdd, Nat.reduceMul, Nat.reduceLeDiff, Nat.le_refl, Int.natCast_zero, Int.toNat_natCast, Int.reduceToNat, *])
    | (with_reducible refine And.intro ?_ ?_)
  all_goals first | (simp_all; done) | omega | (refine ⟨?_, ?_⟩ <;> omega) | (simp; done) | (simp; omega) | trace_state
set_option maxHeartbeats 2000000 in
theorem c_iTakeItem (m : MkM) (t : List (List Int)) (os : List ItM) (h : t.length ≤ 1048576) (h2 : ∀ x ∈ t, x.length ≤ 1048576) (h3 : os.length ≤ 1048576) (k : Int) : Fn Try.prog 10 [eSy m t, eIts os, eI k] true (· = .tup [eIts (takeItem m t os k).1, eI (takeItem m t os k).2]) := by
  refine Fn.of_vcN 46 [.tmp 6, .tmp 7] Try.func10 rfl rfl rfl rfl rfl (of_decide_eq_true rfl) ?_
  have hcode := c_orderCode m t os h h2 h3
  rcases hb : (ordCode m t os == 0) with _ | _
  · have hF := takeItem_no (k := k) (m := m) (t := t) (os := os) (by simpa using hb)
    have hb2 : (ordCode m t os != 0) = true := by simp [bne, hb]
    rw [hF]
    clear hF
    generalize ordCode m t os = c at *
    simp -dsimp -implicitDefEqProofs only [go_sem, ↓reduceIte, Nat.reduceEqDiff, Nat.reduceLT, Nat.reduceAdd, Nat.reduceMul, Nat.reduceLeDiff, Nat.le_refl, Int.natCast_zero, Int.toNat_natCast, Int.reduceToNat]
    (refine sCallT_one (hcode) ?_; try simp -dsimp -implicitDefEqProofs only [go_sem, ↓reduceIte, Nat.reduceEqDiff, Nat.reduceLT, Nat.reduceAdd, Nat.reduceMul, Nat.reduceLeDiff, Nat.le_refl, Int.natCast_zero, Int.toNat_natCast, Int.reduceToNat, *])
    all_goals try simp -dsimp -implicitDefEqProofs only [go_sem, ↓reduceIte, Nat.reduceEqDiff, Nat.reduceLT, Nat.reduceAdd, Nat.reduceMul, Nat.reduceLeDiff, Nat.le_refl, Int.natCast_zero, Int.toNat_natCast, Int.reduceToNat, hb, hb2]
    all_goals first | omega | (exact rfl) | (simp; done) | trace_state
  · have hb0 : ordCode m t os = 0 := by simpa using hb
    obtain ⟨k1, k2⟩ := ordCode_zero hb0
    have hF : takeItem m t os k = if isIn k 0 ((os.length : Int) - 1) then (takeAt os k.toNat, 0) else ([], 2) := by rw [takeItem, if_pos hb0]
    rw [hF]
    clear hF
    rw [hb0] at hcode
    rcases hk : isIn k 0 ((os.length : Int) - 1) with _ | _
    · have hin := c_within k 0 ((os.length : Int) - 1)
      rw [hk] at hin
      simp -dsimp -implicitDefEqProofs only [go_sem, ↓reduceIte, Nat.reduceEqDiff, Nat.reduceLT, Nat.reduceAdd, Nat.reduceMul, Nat.reduceLeDiff, Nat.le_refl, Int.natCast_zero, Int.toNat_natCast, Int.reduceToNat]
      (refine sCallT_one (hcode) ?_; try simp -dsimp -implicitDefEqProofs only [go_sem, ↓reduceIte, Nat.reduceEqDiff, Nat.reduceLT, Nat.reduceAdd, Nat.reduceMul, Nat.reduceLeDiff, Nat.le_refl, Int.natCast_zero, Int.toNat_natCast, Int.reduceToNat, *])
      repeat' (with_reducible refine And.intro ?_ ?_)
      all_goals try (first | omega | (refine ⟨?_, ?_⟩ <;> omega))
      refine sCallT_one hin ?_
      simp -dsimp -implicitDefEqProofs only [go_sem, ↓reduceIte, Nat.reduceEqDiff, Nat.reduceLT, Nat.reduceAdd, Nat.reduceMul, Nat.reduceLeDiff, Nat.le_refl, Int.natCast_zero, Int.toNat_natCast, Int.reduceToNat]
      all_goals first | omega | (exact rfl) | (simp; done) | trace_state
    · have hin := c_within k 0 ((os.length : Int) - 1)
      rw [hk] at hin
      have hk2 : 0 ≤ k ∧ k ≤ (os.length : Int) - 1 := by simpa [isIn] using hk
      obtain ⟨n, rfl⟩ : ∃ n : Nat, k = n := ⟨k.toNat, by omega⟩
      have hn : n < os.length := by omega
      have gi := get_some hn
      have gs : ∀ y, ((os.map eIt).set n y)[n]? = some y := fun y => by simp [hn]
      have hx := ord_copies k2 hn
      simp only [Int.toNat_natCast, if_true]
      rw [takeAt, getD_at hn]
      rcases hg : (os[n].copies - 1 == 0) with _ | _
      · rw [if_neg (by simpa using hg)]
        generalize os[n] = x at *
        simp -dsimp -implicitDefEqProofs only [go_sem, ↓reduceIte, Nat.reduceEqDiff, Nat.reduceLT, Nat.reduceAdd, Nat.reduceMul, Nat.reduceLeDiff, Nat.le_refl, Int.natCast_zero, Int.toNat_natCast, Int.reduceToNat]
        (refine sCallT_one (hcode) ?_; try simp -dsimp -implicitDefEqProofs only [go_sem, ↓reduceIte, Nat.reduceEqDiff, Nat.reduceLT, Nat.reduceAdd, Nat.reduceMul, Nat.reduceLeDiff, Nat.le_refl, Int.natCast_zero, Int.toNat_natCast, Int.reduceToNat, *])
        repeat' (with_reducible refine And.intro ?_ ?_)
        all_goals try (first | omega | (refine ⟨?_, ?_⟩ <;> omega))
        refine sCallT_one hin ?_
        simp -dsimp -implicitDefEqProofs only [go_sem, ↓reduceIte, Nat.reduceEqDiff, Nat.reduceLT, Nat.reduceAdd, Nat.reduceMul, Nat.reduceLeDiff, Nat.le_refl, Int.natCast_zero, Int.toNat_natCast, Int.reduceToNat]
        refine sCallT_one (c_CloneIt os h3) ?_
        simp -dsimp -implicitDefEqProofs only [go_sem, ↓reduceIte, Nat.reduceEqDiff, Nat.reduceLT, Nat.reduceAdd, Nat.reduceMul, Nat.reduceLeDiff, Nat.le_refl, Int.natCast_zero, Int.toNat_natCast, Int.reduceToNat, gi, hg]
        repeat' (with_reducible refine And.intro ?_ ?_)
        all_goals try (first | omega | (refine ⟨?_, ?_⟩ <;> omega) | (exact rfl) | (simp; done))
        simp -dsimp -implicitDefEqProofs only [go_sem, ↓reduceIte, Nat.reduceEqDiff, Nat.reduceLT, Nat.reduceAdd, Nat.reduceMul, Nat.reduceLeDiff, Nat.le_refl, Int.natCast_zero, Int.toNat_natCast, Int.reduceToNat, gs, hg]
        repeat' (with_reducible refine And.intro ?_ ?_)
        all_goals first | omega | (refine ⟨?_, ?_⟩ <;> omega) | (exact rfl) | (simp [decIt, List.map_set]; done) | trace_state
      · rw [if_pos (by simpa using hg)]
        generalize os[n] = x at *
        simp -dsimp -implicitDefEqProofs only [go_sem, ↓reduceIte, Nat.reduceEqDiff, Nat.reduceLT, Nat.reduceAdd, Nat.reduceMul, Nat.reduceLeDiff, Nat.le_refl, Int.natCast_zero, Int.toNat_natCast, Int.reduceToNat]
        (refine sCallT_one (hcode) ?_; try simp -dsimp -implicitDefEqProofs only [go_sem, ↓reduceIte, Nat.reduceEqDiff, Nat.reduceLT, Nat.reduceAdd, Nat.reduceMul, Nat.reduceLeDiff, Nat.le_refl, Int.natCast_zero, Int.toNat_natCast, Int.reduceToNat, *])
        repeat' (with_reducible refine And.intro ?_ ?_)
        all_goals try (first | omega | (refine ⟨?_, ?_⟩ <;> omega))
        refine sCallT_one hin ?_
        simp -dsimp -implicitDefEqProofs only [go_sem, ↓reduceIte, Nat.reduceEqDiff, Nat.reduceLT, Nat.reduceAdd, Nat.reduceMul, Nat.reduceLeDiff, Nat.le_refl, Int.natCast_zero, Int.toNat_natCast, Int.reduceToNat]
        refine sCallT_one (c_CloneIt os h3) ?_
        simp -dsimp -implicitDefEqProofs only [go_sem, ↓reduceIte, Nat.reduceEqDiff, Nat.reduceLT, Nat.reduceAdd, Nat.reduceMul, Nat.reduceLeDiff, Nat.le_refl, Int.natCast_zero, Int.toNat_natCast, Int.reduceToNat, gi, hg]
        repeat' (with_reducible refine And.intro ?_ ?_)
        all_goals try (first | omega | (refine ⟨?_, ?_⟩ <;> omega) | (exact rfl) | (simp; done))
        simp -dsimp -implicitDefEqProofs only [go_sem, ↓reduceIte, Nat.reduceEqDiff, Nat.reduceLT, Nat.reduceAdd, Nat.reduceMul, Nat.reduceLeDiff, Nat.le_refl, Int.natCast_zero, Int.toNat_natCast, Int.reduceToNat, gs, hg]
        repeat' (with_reducible refine And.intro ?_ ?_)
        all_goals try (first | omega | (refine ⟨?_, ?_⟩ <;> omega) | (exact rfl) | (simp; done))
        refine sCallT_del (sh := ⟨3, true⟩) (zs := [.bool false, .int .i64 0, .int .i64 0]) ⟨Try.f27, _, Try.func27, by decide, rfl⟩ rfl (by simp) (by simpa using hn) (by decide) rfl itZero (fun w b cap cs e hb hcs hcap hl h1 => ?_) ?_
        · exact delItems_run w b cap n (n + 1) _ cs e hb hcs hcap rfl (by simpa using hn) hl h1
        · have he : ((os.map eIt).set n (.agg [eB x.key, eI x.index, eI (x.copies - 1)])).eraseIdx n = (os.eraseIdx n).map eIt := by
            apply List.ext_getElem?
            intro p
            rw [List.getElem?_eraseIdx, List.getElem?_map, List.getElem?_eraseIdx]
            split
            · rw [List.getElem?_set_ne (by omega), List.getElem?_map]
            · rw [List.getElem?_set_ne (by omega), List.getElem?_map]
          have hel : (os.eraseIdx n).length = os.length - 1 := by rw [List.length_eraseIdx, if_pos hn]
          rw [he, List.length_set, List.length_map]
          simp -dsimp -implicitDefEqProofs only [go_sem, ↓reduceIte, Nat.reduceEqDiff, Nat.reduceLT, Nat.reduceAdd, Nat.reduceMul, Nat.reduceLeDiff, Nat.le_refl, Int.natCast_zero, Int.toNat_natCast, Int.reduceToNat]
          repeat' (with_reducible refine And.intro ?_ ?_)
          all_goals first | omega | (refine ⟨?_, ?_⟩ <;> omega) | (exact rfl) | (simp [hel]; done) | (rw [List.take_of_length_le (by simp [hel])]; done) | trace_state
end Go.Vc
