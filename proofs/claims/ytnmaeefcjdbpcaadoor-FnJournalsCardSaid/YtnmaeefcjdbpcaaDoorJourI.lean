/-
  Contracts: journals, as the program writes and reads them.
-/
import Derived.Test.YtnmaeefcjdbpcaaDoorStr
set_option linter.unusedVariables false
set_option linter.unusedSimpArgs false
set_option linter.unnecessarySimpa false
namespace Go.Vc
open Go.Proofs Go.Lib
set_option maxRecDepth 100000
theorem join_len (xs : List (List UInt8)) (n : Nat) (h : ∀ x ∈ xs, x.length ≤ n) : (Lib.join xs [44]).length ≤ xs.length * (n + 1) := by
  cases xs with
  | nil => simp [join_nil]
  | cons x r =>
    rw [join_length]
    have hl : ∀ (l : List (List UInt8)), (∀ x ∈ l, x.length ≤ n) → lens l ≤ l.length * n := by
      intro l
      induction l with
      | nil => intro _; simp [lens]
      | cons y t ih =>
        intro h
        have h1 := h y (List.mem_cons_self ..)
        have h2 := ih fun z hz => h z (List.mem_cons_of_mem _ hz)
        simp only [lens, List.map_cons, List.sum_cons, List.length_cons] at h2 ⊢
        rw [Nat.add_mul]; omega
    have := hl (x :: r) h
    simp only [List.length_cons, List.length_nil] at this ⊢
    rw [Nat.mul_succ]
    generalize (r.length + 1) * n = p at *
    omega
theorem c_joined (xs : List Int) (h : xs.length ≤ 1048576) (hx : ∀ x ∈ xs, I64 x) : Fn Tryd.prog 98 [eIs xs, eS [44]] true (· = eS (Lib.join (xs.map itoa) [44])) := by
  refine Fn.of_vcN 24 [.tmp 4] Tryd.func98 rfl rfl rfl rfl rfl (of_decide_eq_true rfl) ?_
  simp -dsimp -implicitDefEqProofs only [go_sem, ↓reduceIte, Nat.reduceEqDiff, Nat.reduceLT, Nat.reduceAdd, Nat.reduceMul, Nat.reduceLeDiff, Nat.le_refl, Int.natCast_zero, Int.toNat_natCast, Int.reduceToNat]
  refine Later.up [1, 9, 10] [17, 18, 19] [8] xs.length (fun _ => True) (fun i => [(5, .ref 8 0 0 i), (11, eI i)]) (fun i => [(8, .row 0 ⟨1, false⟩ true (((xs.take i).map itoa).map eS))]) trivial ?_ rfl (fun i hi _ => ?_) (fun _ => ?_)
  · simp -dsimp -implicitDefEqProofs only [go_sem, ↓reduceIte, Nat.reduceEqDiff, Nat.reduceLT, Nat.reduceAdd, Nat.reduceMul, Nat.reduceLeDiff, Nat.le_refl, Int.natCast_zero, Int.toNat_natCast, Int.reduceToNat]
  · have gi := get_some hi
    have h64 := hx xs[i] (List.getElem_mem hi)
    have htk : xs.take (i + 1) = xs.take i ++ [xs[i]] := List.take_succ_eq_append_getElem hi
    rw [htk]
    generalize xs[i] = x at *
    simp -dsimp -implicitDefEqProofs only [pick_nil, pick_cons, look_nil, look_cons, dropB_nil, dropB_cons, inD_nil, inD_cons, inE_nil, inE_cons, or_t_l, or_f_l, Nat.reduceBEq, Nat.reduceDiv, Nat.reduceAdd, beq_self_eq_true, Bool.false_eq_true, Bool.or_false, ↓reduceIte, Nat.reduceEqDiff, List.cons_append, List.nil_append]
    simp -dsimp -implicitDefEqProofs only [go_sem, ↓reduceIte, Nat.reduceEqDiff, Nat.reduceLT, Nat.reduceAdd, Nat.reduceMul, Nat.reduceLeDiff, Nat.le_refl, Int.natCast_zero, Int.toNat_natCast, Int.reduceToNat, lt_len hi, gi]
    repeat' (with_reducible refine And.intro ?_ ?_)
    all_goals try (first | omega | (refine ⟨?_, ?_⟩ <;> omega))
    refine sCallT_one (c_text h64) ?_
    simp -dsimp -implicitDefEqProofs only [go_sem, ↓reduceIte, Nat.reduceEqDiff, Nat.reduceLT, Nat.reduceAdd, Nat.reduceMul, Nat.reduceLeDiff, Nat.le_refl, Int.natCast_zero, Int.toNat_natCast, Int.reduceToNat]
    repeat' (with_reducible refine And.intro ?_ ?_)
    all_goals (first | omega | (refine ⟨?_, ?_⟩ <;> omega) | (exact rfl) | (simp; done) | trace_state)
  · have hj := join_len (xs.map itoa) 21 (by
      intro y hy
      obtain ⟨x, hxm, rfl⟩ := List.mem_map.1 hy
      exact itoa_len (hx x hxm))
    rw [List.length_map] at hj
    simp -dsimp -implicitDefEqProofs only [pick_nil, pick_cons, look_nil, look_cons, dropB_nil, dropB_cons, inD_nil, inD_cons, inE_nil, inE_cons, or_t_l, or_f_l, Nat.reduceBEq, Nat.reduceDiv, Nat.reduceAdd, beq_self_eq_true, Bool.false_eq_true, Bool.or_false, ↓reduceIte, Nat.reduceEqDiff, List.cons_append, List.nil_append]
    simp -dsimp -implicitDefEqProofs only [go_sem, ↓reduceIte, Nat.reduceEqDiff, Nat.reduceLT, Nat.reduceAdd, Nat.reduceMul, Nat.reduceLeDiff, Nat.le_refl, Int.natCast_zero, Int.toNat_natCast, Int.reduceToNat, nlt_len, List.take_length]
    have e : List.take xs.length (List.map eS (List.map itoa xs)) = List.map eS (List.map itoa xs) := List.take_of_length_le (by simp)
    simp only [e]
    refine sCallT_one (c_Join (xs.map itoa) [44] (by simp; omega) (by omega)) ?_
    simp -dsimp -implicitDefEqProofs only [go_sem, ↓reduceIte, Nat.reduceEqDiff, Nat.reduceLT, Nat.reduceAdd, Nat.reduceMul, Nat.reduceLeDiff, Nat.le_refl, Int.natCast_zero, Int.toNat_natCast, Int.reduceToNat]
theorem join5 (k : Nat) (e : EvM) : Lib.join ([(k : Int), e.kind, e.tag, e.person, e.who].map itoa) [44] = jHead k e := by
  simp [jHead, join_cons, joinTail]
theorem chain_take (c : Int) (h : List UInt8) (i : Nat) (hi : i < h.length) : chainOf c (h.take (i + 1)) = (31 * chainOf c (h.take i) + (h[i].toNat : Int)).tmod 9973 := by
  unfold chainOf; rw [List.take_succ_eq_append_getElem hi, List.foldl_append]; rfl
theorem c_journalLine (c : Int) (k : Nat) (e : EvM) (hc : 0 ≤ c ∧ c ≤ 9972) (hk : k ≤ 1000000) (he : Ev64 e) : Fn Tryd.prog 60 [eI c, eI k, eEv e] true (· = .tup [eS (jLine c k e), eI (chainOf c (jHead k e))]) := by
  refine Fn.of_vcN 42 [.tmp 6, .tmp 7] Tryd.func60 rfl rfl rfl rfl rfl (of_decide_eq_true rfl) ?_
  have hl := jHead_len hk he
  have hjj := join5 k e
  have hch := chain_in (jHead k e) c hc
  have hin := fun i => chain_in ((jHead k e).take i) c hc
  have hct := chain_take c (jHead k e)
  have hk64 := i64_of (n := (k : Int)) (by omega)
  have hcj := c_joined [(k : Int), e.kind, e.tag, e.person, e.who] (by simp) (by
    intro x hx
    simp only [List.mem_cons, List.mem_nil_iff, or_false] at hx
    rcases hx with rfl | rfl | rfl | rfl | rfl
    · exact hk64
    · exact he.1
    · exact he.2.1
    · exact he.2.2.1
    · exact he.2.2.2)
  rw [hjj] at hcj
  have hJ : jLine c k e = jHead k e ++ [32] ++ itoa (chainOf c (jHead k e)) ++ [10] := by simp [jLine, jBody]
  rw [hJ]
  have h64 := i64_of (n := chainOf c (jHead k e)) (by omega)
  have hil := itoa_len h64
  clear hJ
  generalize jHead k e = w at *
  simp -dsimp -implicitDefEqProofs only [go_sem, ↓reduceIte, Nat.reduceEqDiff, Nat.reduceLT, Nat.reduceAdd, Nat.reduceMul, Nat.reduceLeDiff, Nat.le_refl, Int.natCast_zero, Int.toNat_natCast, Int.reduceToNat]
  repeat' (with_reducible refine And.intro ?_ ?_)
  all_goals try (first | omega | (exact rfl))
  refine sCallT_one hcj ?_
  clear hcj hjj
  simp -dsimp -implicitDefEqProofs only [go_sem, ↓reduceIte, Nat.reduceEqDiff, Nat.reduceLT, Nat.reduceAdd, Nat.reduceMul, Nat.reduceLeDiff, Nat.le_refl, Int.natCast_zero, Int.toNat_natCast, Int.reduceToNat]
  refine Later.up [8, 22] [] [] w.length (fun _ => True) (fun i => [(0, eI (chainOf c (w.take i))), (23, eI i)]) (fun _ => []) trivial ?_ rfl (fun i hi _ => ?_) (fun _ => ?_)
  · simp -dsimp -implicitDefEqProofs only [go_sem, ↓reduceIte, Nat.reduceEqDiff, Nat.reduceLT, Nat.reduceAdd, Nat.reduceMul, Nat.reduceLeDiff, Nat.le_refl, Int.natCast_zero, Int.toNat_natCast, Int.reduceToNat]
    simp [chainOf]
  · have h1 := hin i
    have h2 := hct i hi
    have hb := (w[i]).toNat_lt
    have hg : (w.getD i 0) = w[i] := by rw [List.getD_eq_getElem?_getD, List.getElem?_eq_getElem hi]; rfl
    rw [h2]
    clear h2 hct hin hch
    generalize w[i] = b at *
    generalize chainOf c (w.take i) = z at *
    simp -dsimp -implicitDefEqProofs only [pick_nil, pick_cons, look_nil, look_cons, dropB_nil, dropB_cons, inD_nil, inD_cons, inE_nil, inE_cons, or_t_l, or_f_l, Nat.reduceBEq, Nat.reduceDiv, Nat.reduceAdd, beq_self_eq_true, Bool.false_eq_true, Bool.or_false, ↓reduceIte, Nat.reduceEqDiff, List.cons_append, List.nil_append]
    simp -dsimp -implicitDefEqProofs only [go_sem, ↓reduceIte, Nat.reduceEqDiff, Nat.reduceLT, Nat.reduceAdd, Nat.reduceMul, Nat.reduceLeDiff, Nat.le_refl, Int.natCast_zero, Int.toNat_natCast, Int.reduceToNat, lt_len hi, hg]
    repeat' (with_reducible refine And.intro ?_ ?_)
    all_goals (first | omega | (refine ⟨?_, ?_⟩ <;> omega) | (exact rfl) | (simp; done) | trace_state)
  · rw [List.take_length]
    simp -dsimp -implicitDefEqProofs only [pick_nil, pick_cons, look_nil, look_cons, dropB_nil, dropB_cons, inD_nil, inD_cons, inE_nil, inE_cons, or_t_l, or_f_l, Nat.reduceBEq, Nat.reduceDiv, Nat.reduceAdd, beq_self_eq_true, Bool.false_eq_true, Bool.or_false, ↓reduceIte, Nat.reduceEqDiff, List.cons_append, List.nil_append]
    simp -dsimp -implicitDefEqProofs only [go_sem, ↓reduceIte, Nat.reduceEqDiff, Nat.reduceLT, Nat.reduceAdd, Nat.reduceMul, Nat.reduceLeDiff, Nat.le_refl, Int.natCast_zero, Int.toNat_natCast, Int.reduceToNat, nlt_len]
    repeat' (with_reducible refine And.intro ?_ ?_)
    all_goals try omega
    refine sCallT_one (c_text h64) ?_
    simp -dsimp -implicitDefEqProofs only [go_sem, ↓reduceIte, Nat.reduceEqDiff, Nat.reduceLT, Nat.reduceAdd, Nat.reduceMul, Nat.reduceLeDiff, Nat.le_refl, Int.natCast_zero, Int.toNat_natCast, Int.reduceToNat]
    repeat' (with_reducible refine And.intro ?_ ?_)
    all_goals first | omega | (refine ⟨?_, ?_⟩ <;> omega) | (simp; done) | (simp; omega) | (exact rfl) | trace_state
theorem c_isJournalEvent (e : EvM) : Fn Tryd.prog 59 [eEv e] true (· = eB (isJ e)) := by
  refine Fn.of_vcN 5 [.tmp 2] Tryd.func59 rfl rfl rfl rfl rfl (of_decide_eq_true rfl) ?_
  simp -dsimp -implicitDefEqProofs only [go_sem, ↓reduceIte, Nat.reduceEqDiff, Nat.reduceLT, Nat.reduceAdd, Nat.reduceMul, Nat.reduceLeDiff, Nat.le_refl, Int.natCast_zero, Int.toNat_natCast, Int.reduceToNat]
  refine sCallT_one (c_isEvent e 20 10 (by omega) (by omega)) ?_
  simp -dsimp -implicitDefEqProofs only [go_sem, ↓reduceIte, Nat.reduceEqDiff, Nat.reduceLT, Nat.reduceAdd, Nat.reduceMul, Nat.reduceLeDiff, Nat.le_refl, Int.natCast_zero, Int.toNat_natCast, Int.reduceToNat]
  exact rfl
end Go.Vc
