import Derived.Test.YtnmaeefcjdbpcaaGreatDoorTexts
/-
  Contracts: the parts of a text and the numbers in it, as the reference reads them.
-/
set_option linter.unusedVariables false
set_option linter.unusedSimpArgs false
set_option linter.unnecessarySimpa false
namespace Go.Vc
open Go.Proofs Go.Lib
set_option maxRecDepth 100000
/- cutting a text from the left -/
def splSt (c : UInt8) (s : List UInt8) : Nat → List (List UInt8) × Nat
  | 0 => ([], 0)
  | i + 1 => if i = s.length ∨ s.getD i 0 = c then ((splSt c s i).1 ++ [(s.take i).drop (splSt c s i).2], i + 1) else splSt c s i
theorem drop_mid {α : Type} {s : List α} {i j : Nat} {x : α} (h : s[i]? = some x) (hj : j ≤ i) : s.drop j = (s.take i).drop j ++ x :: s.drop (i + 1) := by
  obtain ⟨hlt, he⟩ := List.getElem?_eq_some_iff.1 h
  have e : s.take i ++ x :: s.drop (i + 1) = s := by rw [← he, ← List.drop_eq_getElem_cons hlt, List.take_append_drop]
  rw [← List.drop_append_of_le_length (by simp; omega), e]
theorem splSt_inv (c : UInt8) (s : List UInt8) : ∀ i, i ≤ s.length → spl c s = (splSt c s i).1 ++ spl c (s.drop (splSt c s i).2) ∧ (splSt c s i).2 ≤ i ∧ c ∉ (s.take i).drop (splSt c s i).2 ∧ (splSt c s i).1.length ≤ i
  | 0, _ => by simp [splSt]
  | i + 1, hi => by
    obtain ⟨h1, h2, h3, h4⟩ := splSt_inv c s i (by omega)
    have hlt : i < s.length := by omega
    have hg : s.getD i 0 = s[i] := by rw [List.getD_eq_getElem?_getD, List.getElem?_eq_getElem hlt]; rfl
    rw [splSt]
    by_cases hc : s[i] = c
    · rw [if_pos (.inr (by rw [hg]; exact hc))]
      dsimp only
      refine ⟨?_, Nat.le_refl _, ?_, by simp; omega⟩
      · rw [List.append_assoc, h1]
        congr 1
        have e := drop_mid (s := s) (i := i) (j := (splSt c s i).2) (by rw [List.getElem?_eq_getElem hlt, hc]) h2
        rw [e, spl_app _ h3]; rfl
      · rw [List.drop_eq_nil_of_le (by simp; omega)]; exact List.not_mem_nil
    · rw [if_neg (by rw [hg]; rintro (h | h); · omega
                     · exact hc h)]
      refine ⟨h1, by omega, ?_, by omega⟩
      rw [List.take_succ_eq_append_getElem hlt, List.drop_append]
      intro hm
      rcases List.mem_append.1 hm with hm | hm
      · exact h3 hm
      · have : (s.take i).length = i := by simp; omega
        rw [this, show (splSt c s i).2 - i = 0 by omega] at hm
        simp at hm
        exact hc hm.symm
theorem splSt_end (c : UInt8) (s : List UInt8) : (splSt c s (s.length + 1)).1 = spl c s := by
  obtain ⟨h1, h2, h3, h4⟩ := splSt_inv c s s.length (Nat.le_refl _)
  rw [splSt, if_pos (.inl rfl)]
  rw [List.take_length] at h3 ⊢
  rw [h1, spl_none h3]
theorem splSt_le (c : UInt8) (s : List UInt8) : ∀ i, (splSt c s i).1.length ≤ i ∧ (splSt c s i).2 ≤ i
  | 0 => by simp [splSt]
  | i + 1 => by
    have := splSt_le c s i
    rw [splSt]
    split
    · simp; omega
    · omega
theorem u8_eq (a b : UInt8) : (((a.toNat : Int) == (b.toNat : Int)) = true) ↔ a = b := by
  rw [beq_iff_eq]
  constructor
  · intro h; exact UInt8.toNat_inj.1 (by omega)
  · intro h; rw [h]
theorem c_l01Split (s : List UInt8) (c : UInt8) (h : s.length ≤ 1048576) : Fn Tryz.prog 78 [eS s, .val (.int .u8 c.toNat)] true (· = eSs (spl c s)) := by
  refine Fn.of_vcN 36 [.tmp 4] Tryz.func78 rfl rfl rfl rfl rfl (of_decide_eq_true rfl) ?_
  simp -dsimp -implicitDefEqProofs only [go_sem, ↓reduceIte, Nat.reduceEqDiff, Nat.reduceLT, Nat.reduceAdd, Nat.reduceMul, Nat.reduceLeDiff, Nat.le_refl, Int.natCast_zero, Int.toNat_natCast, Int.reduceToNat]
  refine Later.up [0, 1] [11, 17, 31, 32] [8] (s.length + 1) (fun _ => True) (fun i => [(5, .ref 8 0 0 (splSt c s i).1.length), (6, eI ((splSt c s i).2 : Nat)), (7, eI i)]) (fun i => [(8, .row 0 ⟨1, false⟩ true ((splSt c s i).1.map eS))]) trivial ?_ rfl (fun i hi _ => ?_) (fun _ => ?_)
  · simp -dsimp -implicitDefEqProofs only [go_sem, ↓reduceIte, Nat.reduceEqDiff, Nat.reduceLT, Nat.reduceAdd, Nat.reduceMul, Nat.reduceLeDiff, Nat.le_refl, Int.natCast_zero, Int.toNat_natCast, Int.reduceToNat]
    simp [splSt]
  · have hle := splSt_le c s i
    have d1 : decide ((i : Int) ≤ (s.length : Int)) = true := decide_eq_true (by omega)
    have hst : splSt c s (i + 1) = if i = s.length ∨ s.getD i 0 = c then ((splSt c s i).1 ++ [(s.take i).drop (splSt c s i).2], i + 1) else splSt c s i := rfl
    rw [hst]
    clear hst
    generalize splSt c s i = q at *
    obtain ⟨out, fr⟩ := q
    dsimp only at hle ⊢
    rcases he : ((i : Int) == (s.length : Int)) with _ | _
    · have hne : i ≠ s.length := by intro e; subst e; simp at he
      have hlt : i < s.length := by omega
      have hg : s.getD i 0 = s[i] := by rw [List.getD_eq_getElem?_getD, List.getElem?_eq_getElem hlt]; rfl
      have hu := u8_eq s[i] c
      rw [hg]
      generalize s[i] = b at *
      rcases hb : ((b.toNat : Int) == (c.toNat : Int)) with _ | _
      · have hbc : b ≠ c := fun e => by rw [hu.2 e] at hb; cases hb
        rw [if_neg (by rintro (w | w); · exact hne w
                       · exact hbc w)]
        simp -dsimp -implicitDefEqProofs only [pick_nil, pick_cons, look_nil, look_cons, dropB_nil, dropB_cons, inD_nil, inD_cons, inE_nil, inE_cons, or_t_l, or_f_l, Nat.reduceBEq, Nat.reduceDiv, Nat.reduceAdd, beq_self_eq_true, Bool.false_eq_true, Bool.or_false, ↓reduceIte, Nat.reduceEqDiff, List.cons_append, List.nil_append]
        simp -dsimp -implicitDefEqProofs only [go_sem, ↓reduceIte, Nat.reduceEqDiff, Nat.reduceLT, Nat.reduceAdd, Nat.reduceMul, Nat.reduceLeDiff, Nat.le_refl, Int.natCast_zero, Int.toNat_natCast, Int.reduceToNat, d1, he, hg, hb]
        repeat' (with_reducible refine And.intro ?_ ?_)
        all_goals (first | omega | (refine ⟨?_, ?_⟩ <;> omega) | (exact rfl) | (simp; done) | trace_state)
      · rw [if_pos (.inr (hu.1 hb))]
        simp -dsimp -implicitDefEqProofs only [pick_nil, pick_cons, look_nil, look_cons, dropB_nil, dropB_cons, inD_nil, inD_cons, inE_nil, inE_cons, or_t_l, or_f_l, Nat.reduceBEq, Nat.reduceDiv, Nat.reduceAdd, beq_self_eq_true, Bool.false_eq_true, Bool.or_false, ↓reduceIte, Nat.reduceEqDiff, List.cons_append, List.nil_append]
        simp -dsimp -implicitDefEqProofs only [go_sem, ↓reduceIte, Nat.reduceEqDiff, Nat.reduceLT, Nat.reduceAdd, Nat.reduceMul, Nat.reduceLeDiff, Nat.le_refl, Int.natCast_zero, Int.toNat_natCast, Int.reduceToNat, d1, he, hg, hb]
        repeat' (with_reducible refine And.intro ?_ ?_)
        all_goals try (first | omega | (refine ⟨?_, ?_⟩ <;> omega) | (refine ⟨?_, ?_, ?_⟩ <;> omega))
        all_goals try simp -dsimp -implicitDefEqProofs only [go_sem, ↓reduceIte, Nat.reduceEqDiff, Nat.reduceLT, Nat.reduceAdd, Nat.reduceMul, Nat.reduceLeDiff, Nat.le_refl, Int.natCast_zero, Int.toNat_natCast, Int.reduceToNat]
        repeat' (with_reducible refine And.intro ?_ ?_)
        all_goals first | omega | (refine ⟨?_, ?_⟩ <;> omega) | (refine ⟨?_, ?_, ?_⟩ <;> omega) | (simp; done) | (exact rfl) | trace_state
    · have hq : i = s.length := by have := beq_iff_eq.1 he; omega
      rw [if_pos (.inl hq)]
      simp -dsimp -implicitDefEqProofs only [pick_nil, pick_cons, look_nil, look_cons, dropB_nil, dropB_cons, inD_nil, inD_cons, inE_nil, inE_cons, or_t_l, or_f_l, Nat.reduceBEq, Nat.reduceDiv, Nat.reduceAdd, beq_self_eq_true, Bool.false_eq_true, Bool.or_false, ↓reduceIte, Nat.reduceEqDiff, List.cons_append, List.nil_append]
      simp -dsimp -implicitDefEqProofs only [go_sem, ↓reduceIte, Nat.reduceEqDiff, Nat.reduceLT, Nat.reduceAdd, Nat.reduceMul, Nat.reduceLeDiff, Nat.le_refl, Int.natCast_zero, Int.toNat_natCast, Int.reduceToNat, d1, he]
      repeat' (with_reducible refine And.intro ?_ ?_)
      all_goals try (first | omega | (refine ⟨?_, ?_⟩ <;> omega) | (refine ⟨?_, ?_, ?_⟩ <;> omega))
      all_goals try simp -dsimp -implicitDefEqProofs only [go_sem, ↓reduceIte, Nat.reduceEqDiff, Nat.reduceLT, Nat.reduceAdd, Nat.reduceMul, Nat.reduceLeDiff, Nat.le_refl, Int.natCast_zero, Int.toNat_natCast, Int.reduceToNat]
      repeat' (with_reducible refine And.intro ?_ ?_)
      all_goals first | omega | (refine ⟨?_, ?_⟩ <;> omega) | (refine ⟨?_, ?_, ?_⟩ <;> omega) | (simp; done) | (exact rfl) | trace_state
  · have d1 : decide (((s.length + 1 : Nat) : Int) ≤ (s.length : Int)) = false := decide_eq_false (by omega)
    rw [splSt_end]
    simp -dsimp -implicitDefEqProofs only [pick_nil, pick_cons, look_nil, look_cons, dropB_nil, dropB_cons, inD_nil, inD_cons, inE_nil, inE_cons, or_t_l, or_f_l, Nat.reduceBEq, Nat.reduceDiv, Nat.reduceAdd, beq_self_eq_true, Bool.false_eq_true, Bool.or_false, ↓reduceIte, Nat.reduceEqDiff, List.cons_append, List.nil_append]
    simp -dsimp -implicitDefEqProofs only [go_sem, ↓reduceIte, Nat.reduceEqDiff, Nat.reduceLT, Nat.reduceAdd, Nat.reduceMul, Nat.reduceLeDiff, Nat.le_refl, Int.natCast_zero, Int.toNat_natCast, Int.reduceToNat, d1]
    all_goals first | (simp; done) | (exact rfl) | trace_state
theorem isd_u8 (b : UInt8) : (decide (48 ≤ b.toNat) && decide (b.toNat ≤ 57)) = (!(decide ((b.toNat : Int) < 48) || decide ((b.toNat : Int) > 57))) := by
  by_cases h1 : 48 ≤ b.toNat
  · by_cases h2 : b.toNat ≤ 57
    · rw [decide_eq_true h1, decide_eq_true h2, decide_eq_false (by omega), decide_eq_false (by omega)]; rfl
    · rw [decide_eq_true h1, decide_eq_false h2, decide_eq_false (by omega), decide_eq_true (by omega)]; rfl
  · rw [decide_eq_false h1, decide_eq_true (show (b.toNat : Int) < 48 by omega)]; rfl
abbrev isDig (b : UInt8) : Bool := decide (48 ≤ b.toNat) && decide (b.toNat ≤ 57)
theorem pow13 {n : Nat} (h : n ≤ 13) : 10 ^ n ≤ 10000000000000 := by
  have := Nat.pow_le_pow_right (show 0 < 10 by decide) h
  exact this
theorem c_l01Value (s : List UInt8) (h : s.length ≤ 1048576) : Fn Tryz.prog 94 [eS s] true (· = .tup [eI (valD s).1, eB (valD s).2]) := by
  refine Fn.of_vcN 43 [.tmp 2, .tmp 3] Tryz.func94 rfl rfl rfl rfl rfl (of_decide_eq_true rfl) ?_
  unfold valD
  rcases h1 : decide ((s.length : Int) < 1) with _ | _
  · rcases h13 : decide ((s.length : Int) > 13) with _ | _
    · have g1 := of_decide_eq_false h1
      have g2 := of_decide_eq_false h13
      rw [if_neg (by omega)]
      have hv : ∀ i, i ≤ s.length → ((s.take i).all isDig) = true → dval 0 (s.take i) ≤ 10000000000000 := by
        intro i hi hall
        have h3 := dval_lt (s.take i) 0 (fun c hc => by have := List.all_eq_true.1 hall c hc; simpa [isDig] using this)
        have h4 := pow13 (n := (s.take i).length) (by simp; omega)
        rw [Nat.zero_add, Nat.one_mul] at h3
        omega
      simp -dsimp -implicitDefEqProofs only [go_sem, ↓reduceIte, Nat.reduceEqDiff, Nat.reduceLT, Nat.reduceAdd, Nat.reduceMul, Nat.reduceLeDiff, Nat.le_refl, Int.natCast_zero, Int.toNat_natCast, Int.reduceToNat, h1, h13]
      refine Later.up [0] [16] [] s.length (fun i => ((s.take i).all isDig) = true) (fun i => [(4, eI ((dval 0 (s.take i) : Nat) : Int)), (5, eI i)]) (fun _ => []) rfl ?_ rfl (fun i hi hI => ?_) (fun hI => ?_)
      · simp -dsimp -implicitDefEqProofs only [go_sem, ↓reduceIte, Nat.reduceEqDiff, Nat.reduceLT, Nat.reduceAdd, Nat.reduceMul, Nat.reduceLeDiff, Nat.le_refl, Int.natCast_zero, Int.toNat_natCast, Int.reduceToNat]
        exact rfl
      · have hb := (s[i]).toNat_lt
        have hg : (s.getD i 0) = s[i] := by rw [List.getD_eq_getElem?_getD, List.getElem?_eq_getElem hi]; rfl
        have hall := all_take isDig s i hi
        have hno := fun h => all_no (p := isDig) hi h
        have hdv : dval 0 (s.take (i + 1)) = dval 0 (s.take i) * 10 + ((s[i]).toNat - 48) := by rw [List.take_succ_eq_append_getElem hi, dval_app]; rfl
        have hv1 := hv i (by omega) hI
        have hd := isd_u8 s[i]
        rw [hdv]
        clear hdv hv
        generalize s[i] = b at *
        generalize dval 0 (s.take i) = z at *
        rcases d1 : decide ((b.toNat : Int) < 48) with _ | _
        · rcases d2 : decide ((b.toNat : Int) > 57) with _ | _
          · have e1 := of_decide_eq_false d1
            have e2 := of_decide_eq_false d2
            have hw : IntKind.u8.wrap ((b.toNat : Int) - 48) = (b.toNat : Int) - 48 := u8_wrap (by omega)
            simp -dsimp -implicitDefEqProofs only [pick_nil, pick_cons, look_nil, look_cons, dropB_nil, dropB_cons, inD_nil, inD_cons, inE_nil, inE_cons, or_t_l, or_f_l, Nat.reduceBEq, Nat.reduceDiv, Nat.reduceAdd, beq_self_eq_true, Bool.false_eq_true, Bool.or_false, ↓reduceIte, Nat.reduceEqDiff, List.cons_append, List.nil_append]
            simp -dsimp -implicitDefEqProofs only [go_sem, ↓reduceIte, Nat.reduceEqDiff, Nat.reduceLT, Nat.reduceAdd, Nat.reduceMul, Nat.reduceLeDiff, Nat.le_refl, Int.natCast_zero, Int.toNat_natCast, Int.reduceToNat, lt_len hi, hg, d1, d2, hw]
            repeat' (with_reducible refine And.intro ?_ ?_)
            all_goals first | omega | (refine ⟨?_, ?_⟩ <;> omega) | (rw [hall, hI]; show isDig b = true; rw [isDig, hd, d1, d2]; rfl) | (simp; omega) | (simp; done) | trace_state
          · have hz := hno (by rw [isDig, hd, d1, d2]; rfl)
            rw [if_neg (by rw [show (s.all fun c => decide (48 ≤ c.toNat) && decide (c.toNat ≤ 57)) = s.all isDig from rfl, hz]; decide)]
            simp -dsimp -implicitDefEqProofs only [pick_nil, pick_cons, look_nil, look_cons, dropB_nil, dropB_cons, inD_nil, inD_cons, inE_nil, inE_cons, or_t_l, or_f_l, Nat.reduceBEq, Nat.reduceDiv, Nat.reduceAdd, beq_self_eq_true, Bool.false_eq_true, Bool.or_false, ↓reduceIte, Nat.reduceEqDiff, List.cons_append, List.nil_append]
            simp -dsimp -implicitDefEqProofs only [go_sem, ↓reduceIte, Nat.reduceEqDiff, Nat.reduceLT, Nat.reduceAdd, Nat.reduceMul, Nat.reduceLeDiff, Nat.le_refl, Int.natCast_zero, Int.toNat_natCast, Int.reduceToNat, lt_len hi, hg, d1, d2]
            repeat' (with_reducible refine And.intro ?_ ?_)
            all_goals (first | omega | (refine ⟨?_, ?_⟩ <;> omega) | (exact rfl) | (simp; done) | trace_state)
        · have hz := hno (by rw [isDig, hd, d1]; rfl)
          rw [if_neg (by rw [show (s.all fun c => decide (48 ≤ c.toNat) && decide (c.toNat ≤ 57)) = s.all isDig from rfl, hz]; decide)]
          simp -dsimp -implicitDefEqProofs only [pick_nil, pick_cons, look_nil, look_cons, dropB_nil, dropB_cons, inD_nil, inD_cons, inE_nil, inE_cons, or_t_l, or_f_l, Nat.reduceBEq, Nat.reduceDiv, Nat.reduceAdd, beq_self_eq_true, Bool.false_eq_true, Bool.or_false, ↓reduceIte, Nat.reduceEqDiff, List.cons_append, List.nil_append]
          simp -dsimp -implicitDefEqProofs only [go_sem, ↓reduceIte, Nat.reduceEqDiff, Nat.reduceLT, Nat.reduceAdd, Nat.reduceMul, Nat.reduceLeDiff, Nat.le_refl, Int.natCast_zero, Int.toNat_natCast, Int.reduceToNat, lt_len hi, hg, d1]
          repeat' (with_reducible refine And.intro ?_ ?_)
          all_goals (first | omega | (refine ⟨?_, ?_⟩ <;> omega) | (exact rfl) | (simp; done) | trace_state)
      · rw [List.take_length] at hI
        have hv1 := hv s.length (Nat.le_refl _) (by rw [List.take_length]; exact hI)
        rw [List.take_length] at hv1
        rw [if_pos (show (s.all fun c => decide (48 ≤ c.toNat) && decide (c.toNat ≤ 57)) = true from hI), List.take_length]
        have hcd := c_l01Dec (dval 0 s) (by omega)
        generalize dval 0 s = z at *
        simp -dsimp -implicitDefEqProofs only [pick_nil, pick_cons, look_nil, look_cons, dropB_nil, dropB_cons, inD_nil, inD_cons, inE_nil, inE_cons, or_t_l, or_f_l, Nat.reduceBEq, Nat.reduceDiv, Nat.reduceAdd, beq_self_eq_true, Bool.false_eq_true, Bool.or_false, ↓reduceIte, Nat.reduceEqDiff, List.cons_append, List.nil_append]
        simp -dsimp -implicitDefEqProofs only [go_sem, ↓reduceIte, Nat.reduceEqDiff, Nat.reduceLT, Nat.reduceAdd, Nat.reduceMul, Nat.reduceLeDiff, Nat.le_refl, Int.natCast_zero, Int.toNat_natCast, Int.reduceToNat, nlt_len]
        refine sCallT_one hcd ?_
        simp -dsimp -implicitDefEqProofs only [go_sem, ↓reduceIte, Nat.reduceEqDiff, Nat.reduceLT, Nat.reduceAdd, Nat.reduceMul, Nat.reduceLeDiff, Nat.le_refl, Int.natCast_zero, Int.toNat_natCast, Int.reduceToNat]
        all_goals (first | omega | (refine ⟨?_, ?_⟩ <;> omega) | (exact rfl) | (simp; done) | trace_state)
    · have g1 := of_decide_eq_true h13
      rw [if_pos (by omega)]
      simp -dsimp -implicitDefEqProofs only [go_sem, ↓reduceIte, Nat.reduceEqDiff, Nat.reduceLT, Nat.reduceAdd, Nat.reduceMul, Nat.reduceLeDiff, Nat.le_refl, Int.natCast_zero, Int.toNat_natCast, Int.reduceToNat, h1, h13]
      repeat' (with_reducible refine And.intro ?_ ?_)
      all_goals (first | omega | (refine ⟨?_, ?_⟩ <;> omega) | (exact rfl) | (simp; done) | trace_state)
  · have g1 := of_decide_eq_true h1
    rw [if_pos (by omega)]
    simp -dsimp -implicitDefEqProofs only [go_sem, ↓reduceIte, Nat.reduceEqDiff, Nat.reduceLT, Nat.reduceAdd, Nat.reduceMul, Nat.reduceLeDiff, Nat.le_refl, Int.natCast_zero, Int.toNat_natCast, Int.reduceToNat, h1]
    repeat' (with_reducible refine And.intro ?_ ?_)
    all_goals (first | omega | (refine ⟨?_, ?_⟩ <;> omega) | (exact rfl) | (simp; done) | trace_state)
end Go.Vc
/-
  Contracts: journals, as the program writes and reads them.
-/
set_option linter.unusedVariables false
set_option linter.unusedSimpArgs false
set_option linter.unnecessarySimpa false
namespace Go.Vc
open Go.Proofs Go.Lib
set_option maxRecDepth 100000
theorem join_len (xs : List (List UInt8)) (n : Nat) (h : ∀ x ∈ xs, x.length ≤ n) : (Lib.join xs [44]).length ≤ xs.length * (n + 1) := by
  cases xs with
  | nil => simp [join_nil]
  | cons x r =>
    rw [join_length]
    have hl : ∀ (l : List (List UInt8)), (∀ x ∈ l, x.length ≤ n) → lens l ≤ l.length * n := by
      intro l
      induction l with
      | nil => intro _; simp [lens]
      | cons y t ih =>
        intro h
        have h1 := h y (List.mem_cons_self ..)
        have h2 := ih fun z hz => h z (List.mem_cons_of_mem _ hz)
        simp only [lens, List.map_cons, List.sum_cons, List.length_cons] at h2 ⊢
        rw [Nat.add_mul]; omega
    have := hl (x :: r) h
    simp only [List.length_cons, List.length_nil] at this ⊢
    rw [Nat.mul_succ]
    generalize (r.length + 1) * n = p at *
    omega
theorem c_joined (xs : List Int) (h : xs.length ≤ 1048576) (hx : ∀ x ∈ xs, I64 x) : Fn Tryz.prog 86 [eIs xs, eS [44]] true (· = eS (Lib.join (xs.map itoa) [44])) := by
  refine Fn.of_vcN 24 [.tmp 4] Tryz.func86 rfl rfl rfl rfl rfl (of_decide_eq_true rfl) ?_
  simp -dsimp -implicitDefEqProofs only [go_sem, ↓reduceIte, Nat.reduceEqDiff, Nat.reduceLT, Nat.reduceAdd, Nat.reduceMul, Nat.reduceLeDiff, Nat.le_refl, Int.natCast_zero, Int.toNat_natCast, Int.reduceToNat]
  refine Later.up [1, 9, 10] [17, 18, 19] [8] xs.length (fun _ => True) (fun i => [(5, .ref 8 0 0 i), (11, eI i)]) (fun i => [(8, .row 0 ⟨1, false⟩ true (((xs.take i).map itoa).map eS))]) trivial ?_ rfl (fun i hi _ => ?_) (fun _ => ?_)
  · simp -dsimp -implicitDefEqProofs only [go_sem, ↓reduceIte, Nat.reduceEqDiff, Nat.reduceLT, Nat.reduceAdd, Nat.reduceMul, Nat.reduceLeDiff, Nat.le_refl, Int.natCast_zero, Int.toNat_natCast, Int.reduceToNat]
  · have gi := get_some hi
    have h64 := hx xs[i] (List.getElem_mem hi)
    have htk : xs.take (i + 1) = xs.take i ++ [xs[i]] := List.take_succ_eq_append_getElem hi
    rw [htk]
    generalize xs[i] = x at *
    simp -dsimp -implicitDefEqProofs only [pick_nil, pick_cons, look_nil, look_cons, dropB_nil, dropB_cons, inD_nil, inD_cons, inE_nil, inE_cons, or_t_l, or_f_l, Nat.reduceBEq, Nat.reduceDiv, Nat.reduceAdd, beq_self_eq_true, Bool.false_eq_true, Bool.or_false, ↓reduceIte, Nat.reduceEqDiff, List.cons_append, List.nil_append]
    simp -dsimp -implicitDefEqProofs only [go_sem, ↓reduceIte, Nat.reduceEqDiff, Nat.reduceLT, Nat.reduceAdd, Nat.reduceMul, Nat.reduceLeDiff, Nat.le_refl, Int.natCast_zero, Int.toNat_natCast, Int.reduceToNat, lt_len hi, gi]
    repeat' (with_reducible refine And.intro ?_ ?_)
    all_goals try (first | omega | (refine ⟨?_, ?_⟩ <;> omega))
    refine sCallT_one (c_text h64) ?_
    simp -dsimp -implicitDefEqProofs only [go_sem, ↓reduceIte, Nat.reduceEqDiff, Nat.reduceLT, Nat.reduceAdd, Nat.reduceMul, Nat.reduceLeDiff, Nat.le_refl, Int.natCast_zero, Int.toNat_natCast, Int.reduceToNat]
    repeat' (with_reducible refine And.intro ?_ ?_)
    all_goals (first | omega | (refine ⟨?_, ?_⟩ <;> omega) | (exact rfl) | (simp; done) | trace_state)
  · have hj := join_len (xs.map itoa) 21 (by
      intro y hy
      obtain ⟨x, hxm, rfl⟩ := List.mem_map.1 hy
      exact itoa_len (hx x hxm))
    rw [List.length_map] at hj
    simp -dsimp -implicitDefEqProofs only [pick_nil, pick_cons, look_nil, look_cons, dropB_nil, dropB_cons, inD_nil, inD_cons, inE_nil, inE_cons, or_t_l, or_f_l, Nat.reduceBEq, Nat.reduceDiv, Nat.reduceAdd, beq_self_eq_true, Bool.false_eq_true, Bool.or_false, ↓reduceIte, Nat.reduceEqDiff, List.cons_append, List.nil_append]
    simp -dsimp -implicitDefEqProofs only [go_sem, ↓reduceIte, Nat.reduceEqDiff, Nat.reduceLT, Nat.reduceAdd, Nat.reduceMul, Nat.reduceLeDiff, Nat.le_refl, Int.natCast_zero, Int.toNat_natCast, Int.reduceToNat, nlt_len, List.take_length]
    have e : List.take xs.length (List.map eS (List.map itoa xs)) = List.map eS (List.map itoa xs) := List.take_of_length_le (by simp)
    simp only [e]
    refine sCallT_one (c_Join (xs.map itoa) [44] (by simp; omega) (by omega)) ?_
    simp -dsimp -implicitDefEqProofs only [go_sem, ↓reduceIte, Nat.reduceEqDiff, Nat.reduceLT, Nat.reduceAdd, Nat.reduceMul, Nat.reduceLeDiff, Nat.le_refl, Int.natCast_zero, Int.toNat_natCast, Int.reduceToNat]
theorem join5 (k : Nat) (e : EvM) : Lib.join ([(k : Int), e.kind, e.tag, e.person, e.who].map itoa) [44] = jHead k e := by
  simp [jHead, join_cons, joinTail]
theorem chain_take (c : Int) (h : List UInt8) (i : Nat) (hi : i < h.length) : chainOf c (h.take (i + 1)) = (31 * chainOf c (h.take i) + (h[i].toNat : Int)).tmod 9973 := by
  unfold chainOf; rw [List.take_succ_eq_append_getElem hi, List.foldl_append]; rfl
theorem c_journalLine (c : Int) (k : Nat) (e : EvM) (hc : 0 ≤ c ∧ c ≤ 9972) (hk : k ≤ 1000000) (he : Ev64 e) : Fn Tryz.prog 70 [eI c, eI k, eEv e] true (· = .tup [eS (jLine c k e), eI (chainOf c (jHead k e))]) := by
  refine Fn.of_vcN 42 [.tmp 6, .tmp 7] Tryz.func70 rfl rfl rfl rfl rfl (of_decide_eq_true rfl) ?_
  have hl := jHead_len hk he
  have hjj := join5 k e
  have hch := chain_in (jHead k e) c hc
  have hin := fun i => chain_in ((jHead k e).take i) c hc
  have hct := chain_take c (jHead k e)
  have hk64 := i64_of (n := (k : Int)) (by omega)
  have hcj := c_joined [(k : Int), e.kind, e.tag, e.person, e.who] (by simp) (by
    intro x hx
    simp only [List.mem_cons, List.mem_nil_iff, or_false] at hx
    rcases hx with rfl | rfl | rfl | rfl | rfl
    · exact hk64
    · exact he.1
    · exact he.2.1
    · exact he.2.2.1
    · exact he.2.2.2)
  rw [hjj] at hcj
  have hJ : jLine c k e = jHead k e ++ [32] ++ itoa (chainOf c (jHead k e)) ++ [10] := by simp [jLine, jBody]
  rw [hJ]
  have h64 := i64_of (n := chainOf c (jHead k e)) (by omega)
  have hil := itoa_len h64
  clear hJ
  generalize jHead k e = w at *
  simp -dsimp -implicitDefEqProofs only [go_sem, ↓reduceIte, Nat.reduceEqDiff, Nat.reduceLT, Nat.reduceAdd, Nat.reduceMul, Nat.reduceLeDiff, Nat.le_refl, Int.natCast_zero, Int.toNat_natCast, Int.reduceToNat]
  repeat' (with_reducible refine And.intro ?_ ?_)
  all_goals try (first | omega | (exact rfl))
  refine sCallT_one hcj ?_
  clear hcj hjj
  simp -dsimp -implicitDefEqProofs only [go_sem, ↓reduceIte, Nat.reduceEqDiff, Nat.reduceLT, Nat.reduceAdd, Nat.reduceMul, Nat.reduceLeDiff, Nat.le_refl, Int.natCast_zero, Int.toNat_natCast, Int.reduceToNat]
  refine Later.up [8, 22] [] [] w.length (fun _ => True) (fun i => [(0, eI (chainOf c (w.take i))), (23, eI i)]) (fun _ => []) trivial ?_ rfl (fun i hi _ => ?_) (fun _ => ?_)
  · simp -dsimp -implicitDefEqProofs only [go_sem, ↓reduceIte, Nat.reduceEqDiff, Nat.reduceLT, Nat.reduceAdd, Nat.reduceMul, Nat.reduceLeDiff, Nat.le_refl, Int.natCast_zero, Int.toNat_natCast, Int.reduceToNat]
    simp [chainOf]
  · have h1 := hin i
    have h2 := hct i hi
    have hb := (w[i]).toNat_lt
    have hg : (w.getD i 0) = w[i] := by rw [List.getD_eq_getElem?_getD, List.getElem?_eq_getElem hi]; rfl
    rw [h2]
    clear h2 hct hin hch
    generalize w[i] = b at *
    generalize chainOf c (w.take i) = z at *
    simp -dsimp -implicitDefEqProofs only [pick_nil, pick_cons, look_nil, look_cons, dropB_nil, dropB_cons, inD_nil, inD_cons, inE_nil, inE_cons, or_t_l, or_f_l, Nat.reduceBEq, Nat.reduceDiv, Nat.reduceAdd, beq_self_eq_true, Bool.false_eq_true, Bool.or_false, ↓reduceIte, Nat.reduceEqDiff, List.cons_append, List.nil_append]
    simp -dsimp -implicitDefEqProofs only [go_sem, ↓reduceIte, Nat.reduceEqDiff, Nat.reduceLT, Nat.reduceAdd, Nat.reduceMul, Nat.reduceLeDiff, Nat.le_refl, Int.natCast_zero, Int.toNat_natCast, Int.reduceToNat, lt_len hi, hg]
    repeat' (with_reducible refine And.intro ?_ ?_)
    all_goals (first | omega | (refine ⟨?_, ?_⟩ <;> omega) | (exact rfl) | (simp; done) | trace_state)
  · rw [List.take_length]
    simp -dsimp -implicitDefEqProofs only [pick_nil, pick_cons, look_nil, look_cons, dropB_nil, dropB_cons, inD_nil, inD_cons, inE_nil, inE_cons, or_t_l, or_f_l, Nat.reduceBEq, Nat.reduceDiv, Nat.reduceAdd, beq_self_eq_true, Bool.false_eq_true, Bool.or_false, ↓reduceIte, Nat.reduceEqDiff, List.cons_append, List.nil_append]
    simp -dsimp -implicitDefEqProofs only [go_sem, ↓reduceIte, Nat.reduceEqDiff, Nat.reduceLT, Nat.reduceAdd, Nat.reduceMul, Nat.reduceLeDiff, Nat.le_refl, Int.natCast_zero, Int.toNat_natCast, Int.reduceToNat, nlt_len]
    repeat' (with_reducible refine And.intro ?_ ?_)
    all_goals try omega
    refine sCallT_one (c_text h64) ?_
    simp -dsimp -implicitDefEqProofs only [go_sem, ↓reduceIte, Nat.reduceEqDiff, Nat.reduceLT, Nat.reduceAdd, Nat.reduceMul, Nat.reduceLeDiff, Nat.le_refl, Int.natCast_zero, Int.toNat_natCast, Int.reduceToNat]
    repeat' (with_reducible refine And.intro ?_ ?_)
    all_goals first | omega | (refine ⟨?_, ?_⟩ <;> omega) | (simp; done) | (simp; omega) | (exact rfl) | trace_state
theorem c_isJournalEvent (e : EvM) : Fn Tryz.prog 69 [eEv e] true (· = eB (isJ e)) := by
  refine Fn.of_vcN 5 [.tmp 2] Tryz.func69 rfl rfl rfl rfl rfl (of_decide_eq_true rfl) ?_
  simp -dsimp -implicitDefEqProofs only [go_sem, ↓reduceIte, Nat.reduceEqDiff, Nat.reduceLT, Nat.reduceAdd, Nat.reduceMul, Nat.reduceLeDiff, Nat.le_refl, Int.natCast_zero, Int.toNat_natCast, Int.reduceToNat]
  refine sCallT_one (c_isEvent e 20 10 (by omega) (by omega)) ?_
  simp -dsimp -implicitDefEqProofs only [go_sem, ↓reduceIte, Nat.reduceEqDiff, Nat.reduceLT, Nat.reduceAdd, Nat.reduceMul, Nat.reduceLeDiff, Nat.le_refl, Int.natCast_zero, Int.toNat_natCast, Int.reduceToNat]
  exact rfl
end Go.Vc
/-
  Contracts: journals, as the program writes and reads them, whole.
-/
set_option linter.unusedVariables false
set_option linter.unusedSimpArgs false
set_option linter.unnecessarySimpa false
namespace Go.Vc
open Go.Proofs Go.Lib
set_option maxRecDepth 100000
def jText (es : List EvM) : List UInt8 × Int := if es.all isJ = true then (if es.length > 60 then ([], 3) else if (jT 1 0 es).length > 1000 then ([], 3) else (jT 1 0 es, 0)) else ([], 2)
theorem jT_take {es : List EvM} {i : Nat} (h : i < es.length) : jT 1 0 (es.take (i + 1)) = jT 1 0 (es.take i) ++ jLine (jC 1 0 (es.take i)) i es[i] := by
  rw [List.take_succ_eq_append_getElem h, jT_snoc, Nat.zero_add, List.length_take, Nat.min_eq_left (Nat.le_of_lt h)]
theorem jC_take {es : List EvM} {i : Nat} (h : i < es.length) : jC 1 0 (es.take (i + 1)) = chainOf (jC 1 0 (es.take i)) (jHead i es[i]) := by
  rw [List.take_succ_eq_append_getElem h, jC_snoc, Nat.zero_add, List.length_take, Nat.min_eq_left (Nat.le_of_lt h)]
theorem c_iJournalText (es : List EvM) (h : es.length ≤ 1048576) : Fn Tryz.prog 45 [eEvs es] true (· = .tup [eS (jText es).1, eI (jText es).2]) := by
  refine Fn.of_vcN 46 [.tmp 2, .tmp 3] Tryz.func45 rfl rfl rfl rfl rfl (of_decide_eq_true rfl) ?_
  unfold jText
  simp -dsimp -implicitDefEqProofs only [go_sem, ↓reduceIte, Nat.reduceEqDiff, Nat.reduceLT, Nat.reduceAdd, Nat.reduceMul, Nat.reduceLeDiff, Nat.le_refl, Int.natCast_zero, Int.toNat_natCast, Int.reduceToNat]
  refine Later.up [0, 11, 12] [5, 18] [] es.length (fun i => ((es.take i).all isJ) = true) (fun i => [(13, eI i)]) (fun _ => []) rfl ?_ rfl (fun i hi hI => ?_) (fun hI => ?_)
  · simp -dsimp -implicitDefEqProofs only [go_sem, ↓reduceIte, Nat.reduceEqDiff, Nat.reduceLT, Nat.reduceAdd, Nat.reduceMul, Nat.reduceLeDiff, Nat.le_refl, Int.natCast_zero, Int.toNat_natCast, Int.reduceToNat]
  · have gi := get_some hi
    have hall := all_take isJ es i hi
    have hno := fun h => all_no (p := isJ) hi h
    generalize es[i] = e at *
    rcases hq : isJ e with _ | _
    · have hz := hno hq
      simp -dsimp -implicitDefEqProofs only [pick_nil, pick_cons, look_nil, look_cons, dropB_nil, dropB_cons, inD_nil, inD_cons, inE_nil, inE_cons, or_t_l, or_f_l, Nat.reduceBEq, Nat.reduceDiv, Nat.reduceAdd, beq_self_eq_true, Bool.false_eq_true, Bool.or_false, ↓reduceIte, Nat.reduceEqDiff, List.cons_append, List.nil_append]
      simp -dsimp -implicitDefEqProofs only [go_sem, ↓reduceIte, Nat.reduceEqDiff, Nat.reduceLT, Nat.reduceAdd, Nat.reduceMul, Nat.reduceLeDiff, Nat.le_refl, Int.natCast_zero, Int.toNat_natCast, Int.reduceToNat, lt_len hi, gi]
      repeat' (with_reducible refine And.intro ?_ ?_)
      all_goals try (first | omega | (refine ⟨?_, ?_⟩ <;> omega))
      refine sCallT_one (c_isJournalEvent e) ?_
      simp -dsimp -implicitDefEqProofs only [go_sem, ↓reduceIte, Nat.reduceEqDiff, Nat.reduceLT, Nat.reduceAdd, Nat.reduceMul, Nat.reduceLeDiff, Nat.le_refl, Int.natCast_zero, Int.toNat_natCast, Int.reduceToNat, hq]
      rw [if_neg (by rw [hz]; decide)]
      all_goals first | (exact rfl) | (simp; done) | trace_state
    · simp -dsimp -implicitDefEqProofs only [pick_nil, pick_cons, look_nil, look_cons, dropB_nil, dropB_cons, inD_nil, inD_cons, inE_nil, inE_cons, or_t_l, or_f_l, Nat.reduceBEq, Nat.reduceDiv, Nat.reduceAdd, beq_self_eq_true, Bool.false_eq_true, Bool.or_false, ↓reduceIte, Nat.reduceEqDiff, List.cons_append, List.nil_append]
      simp -dsimp -implicitDefEqProofs only [go_sem, ↓reduceIte, Nat.reduceEqDiff, Nat.reduceLT, Nat.reduceAdd, Nat.reduceMul, Nat.reduceLeDiff, Nat.le_refl, Int.natCast_zero, Int.toNat_natCast, Int.reduceToNat, lt_len hi, gi]
      repeat' (with_reducible refine And.intro ?_ ?_)
      all_goals try (first | omega | (refine ⟨?_, ?_⟩ <;> omega))
      refine sCallT_one (c_isJournalEvent e) ?_
      simp -dsimp -implicitDefEqProofs only [go_sem, ↓reduceIte, Nat.reduceEqDiff, Nat.reduceLT, Nat.reduceAdd, Nat.reduceMul, Nat.reduceLeDiff, Nat.le_refl, Int.natCast_zero, Int.toNat_natCast, Int.reduceToNat, hq]
      repeat' (with_reducible refine And.intro ?_ ?_)
      all_goals first | omega | (refine ⟨?_, ?_⟩ <;> omega) | (rw [hall, hI, hq]; rfl) | (simp; done) | trace_state
  · rw [List.take_length] at hI
    rw [if_pos hI]
    rcases h60 : decide ((es.length : Int) > 60) with _ | _
    · have hl60 := of_decide_eq_false h60
      rw [if_neg (by omega)]
      have hJ : ∀ e ∈ es, isJ e = true := fun e he => List.all_eq_true.1 hI e he
      have h64 : ∀ i, ∀ e ∈ es.take i, Ev64 e := fun i e he => isJ_64 (hJ e (List.mem_of_mem_take he))
      simp -dsimp -implicitDefEqProofs only [pick_nil, pick_cons, look_nil, look_cons, dropB_nil, dropB_cons, inD_nil, inD_cons, inE_nil, inE_cons, or_t_l, or_f_l, Nat.reduceBEq, Nat.reduceDiv, Nat.reduceAdd, beq_self_eq_true, Bool.false_eq_true, Bool.or_false, ↓reduceIte, Nat.reduceEqDiff, List.cons_append, List.nil_append]
      simp -dsimp -implicitDefEqProofs only [go_sem, ↓reduceIte, Nat.reduceEqDiff, Nat.reduceLT, Nat.reduceAdd, Nat.reduceMul, Nat.reduceLeDiff, Nat.le_refl, Int.natCast_zero, Int.toNat_natCast, Int.reduceToNat, nlt_len, h60]
      refine Later.up [24, 25] [10, 35] [] es.length (fun _ => True) (fun i => [(6, eS (jT 1 0 (es.take i))), (7, eI (jC 1 0 (es.take i))), (26, eI i)]) (fun _ => []) trivial ?_ rfl (fun i hi _ => ?_) (fun _ => ?_)
      · simp -dsimp -implicitDefEqProofs only [go_sem, ↓reduceIte, Nat.reduceEqDiff, Nat.reduceLT, Nat.reduceAdd, Nat.reduceMul, Nat.reduceLeDiff, Nat.le_refl, Int.natCast_zero, Int.toNat_natCast, Int.reduceToNat]
        exact ⟨rfl, rfl⟩
      · have gi := get_some hi
        have h1 := jT_len (es.take i) 1 0 (by omega) (by simp; omega) (h64 i)
        have h2 := jC_in (es.take i) 1 0 (by omega)
        have he64 := isJ_64 (hJ es[i] (List.getElem_mem hi))
        have h3 := jLine_len (k := i) h2 (by omega) he64
        rw [jT_take hi, jC_take hi]
        have hlt : (es.take i).length ≤ 60 := by simp; omega
        generalize es[i] = e at *
        generalize jT 1 0 (es.take i) = T at *
        generalize jC 1 0 (es.take i) = C at *
        simp -dsimp -implicitDefEqProofs only [pick_nil, pick_cons, look_nil, look_cons, dropB_nil, dropB_cons, inD_nil, inD_cons, inE_nil, inE_cons, or_t_l, or_f_l, Nat.reduceBEq, Nat.reduceDiv, Nat.reduceAdd, beq_self_eq_true, Bool.false_eq_true, Bool.or_false, ↓reduceIte, Nat.reduceEqDiff, List.cons_append, List.nil_append]
        simp -dsimp -implicitDefEqProofs only [go_sem, ↓reduceIte, Nat.reduceEqDiff, Nat.reduceLT, Nat.reduceAdd, Nat.reduceMul, Nat.reduceLeDiff, Nat.le_refl, Int.natCast_zero, Int.toNat_natCast, Int.reduceToNat, lt_len hi, gi]
        repeat' (with_reducible refine And.intro ?_ ?_)
        all_goals try (first | omega | (refine ⟨?_, ?_⟩ <;> omega))
        refine sCallT_one (c_journalLine C i e h2 (by omega) he64) ?_
        simp -dsimp -implicitDefEqProofs only [go_sem, ↓reduceIte, Nat.reduceEqDiff, Nat.reduceLT, Nat.reduceAdd, Nat.reduceMul, Nat.reduceLeDiff, Nat.le_refl, Int.natCast_zero, Int.toNat_natCast, Int.reduceToNat]
        repeat' (with_reducible refine And.intro ?_ ?_)
        all_goals (first | omega | (refine ⟨?_, ?_⟩ <;> omega) | (exact rfl) | (simp; done) | (rw [hL]; done) | trace_state)
      · rw [List.take_length]
        rcases hk : decide (((jT 1 0 es).length : Int) > 1000) with _ | _
        · have := of_decide_eq_false hk
          rw [if_neg (by omega)]
          simp -dsimp -implicitDefEqProofs only [pick_nil, pick_cons, look_nil, look_cons, dropB_nil, dropB_cons, inD_nil, inD_cons, inE_nil, inE_cons, or_t_l, or_f_l, Nat.reduceBEq, Nat.reduceDiv, Nat.reduceAdd, beq_self_eq_true, Bool.false_eq_true, Bool.or_false, ↓reduceIte, Nat.reduceEqDiff, List.cons_append, List.nil_append]
          simp -dsimp -implicitDefEqProofs only [go_sem, ↓reduceIte, Nat.reduceEqDiff, Nat.reduceLT, Nat.reduceAdd, Nat.reduceMul, Nat.reduceLeDiff, Nat.le_refl, Int.natCast_zero, Int.toNat_natCast, Int.reduceToNat, nlt_len, hk]
        · have := of_decide_eq_true hk
          rw [if_pos (by omega)]
          simp -dsimp -implicitDefEqProofs only [pick_nil, pick_cons, look_nil, look_cons, dropB_nil, dropB_cons, inD_nil, inD_cons, inE_nil, inE_cons, or_t_l, or_f_l, Nat.reduceBEq, Nat.reduceDiv, Nat.reduceAdd, beq_self_eq_true, Bool.false_eq_true, Bool.or_false, ↓reduceIte, Nat.reduceEqDiff, List.cons_append, List.nil_append]
          simp -dsimp -implicitDefEqProofs only [go_sem, ↓reduceIte, Nat.reduceEqDiff, Nat.reduceLT, Nat.reduceAdd, Nat.reduceMul, Nat.reduceLeDiff, Nat.le_refl, Int.natCast_zero, Int.toNat_natCast, Int.reduceToNat, nlt_len, hk]
          all_goals (first | omega | (refine ⟨?_, ?_⟩ <;> omega) | (exact rfl) | (simp; done) | (rw [hL]; done) | trace_state)
    · have hl60 := of_decide_eq_true h60
      rw [if_pos (by omega)]
      simp -dsimp -implicitDefEqProofs only [pick_nil, pick_cons, look_nil, look_cons, dropB_nil, dropB_cons, inD_nil, inD_cons, inE_nil, inE_cons, or_t_l, or_f_l, Nat.reduceBEq, Nat.reduceDiv, Nat.reduceAdd, beq_self_eq_true, Bool.false_eq_true, Bool.or_false, ↓reduceIte, Nat.reduceEqDiff, List.cons_append, List.nil_append]
      simp -dsimp -implicitDefEqProofs only [go_sem, ↓reduceIte, Nat.reduceEqDiff, Nat.reduceLT, Nat.reduceAdd, Nat.reduceMul, Nat.reduceLeDiff, Nat.le_refl, Int.natCast_zero, Int.toNat_natCast, Int.reduceToNat, nlt_len, h60]
      all_goals (first | omega | (refine ⟨?_, ?_⟩ <;> omega) | (exact rfl) | (simp; done) | (rw [hL]; done) | trace_state)
theorem part_len {c : UInt8} {l : List UInt8} : ((spl c l).headD []).length ≤ l.length := by
  have := spl_ne c l
  cases h : spl c l with
  | nil => exact absurd h this
  | cons a r => exact spl_part_len c l a (by rw [h]; exact List.mem_cons_self ..)
theorem five {α : Type} {l : List α} (h : l.length = 5) : ∃ a b c d e, l = [a, b, c, d, e] := by
  match l, h with
  | [a, b, c, d, e], _ => exact ⟨a, b, c, d, e, rfl⟩
theorem partN_64 {c : UInt8} {s : List UInt8} (h : (partN c s).2 = true) : ∀ x ∈ (partN c s).1, I64 x := by
  unfold partN at *
  split at h
  · rename_i h1
    rw [if_pos h1]
    intro x hx
    obtain ⟨w, hw, rfl⟩ := List.mem_map.1 hx
    exact (numI_true (List.all_eq_true.1 h1 w hw)).1
  · cases h
structure JSt where
  es : List EvM
  r : List UInt8
  c : Int
set_option maxHeartbeats 4000000 in
theorem c_readJournal (t : List UInt8) (h : t.length ≤ 1048575) : Fn Tryz.prog 48 [eS t] true (· = .tup [eEvs (readJ t).1, eI ((t.length - (readJ t).2.1.length : Nat) : Int), eI (readJ t).2.2]) := by
  refine Fn.of_vcN 95 [.tmp 2, .tmp 3, .tmp 4] Tryz.func48 rfl rfl rfl rfl rfl (of_decide_eq_true rfl) ?_
  obtain ⟨a, ha⟩ : ∃ a, readJ t = a := ⟨_, rfl⟩
  rw [ha]
  unfold readJ at ha
  simp -dsimp -implicitDefEqProofs only [go_sem, ↓reduceIte, Nat.reduceEqDiff, Nat.reduceLT, Nat.reduceAdd, Nat.reduceMul, Nat.reduceLeDiff, Nat.le_refl, Int.natCast_zero, Int.toNat_natCast, Int.reduceToNat]
  refine Later.lp [0] [16, 21, 27, 33, 39, 50, 69, 71, 75, 85, 86, 90] [19] (fun x : JSt => JInv t x.es x.r x.c ∧ x.es.length ≤ 60 ∧ recJ (60 - x.es.length) x.es x.r x.c = a)
    (fun x => [(5, .ref 19 0 0 x.es.length), (6, eI ((t.length - x.r.length : Nat) : Int)), (7, eI x.c)]) (fun x => [(19, .row 0 ⟨4, true⟩ true (x.es.map eEv))]) (fun x => 60 - x.es.length) ⟨[], t, 1⟩ ⟨JInv.start t, by simp, ha⟩ ?_ rfl (fun x hI => ?_)
  · simp -dsimp -implicitDefEqProofs only [go_sem, ↓reduceIte, Nat.reduceEqDiff, Nat.reduceLT, Nat.reduceAdd, Nat.reduceMul, Nat.reduceLeDiff, Nat.le_refl, Int.natCast_zero, Int.toNat_natCast, Int.reduceToNat]
    simp
  · obtain ⟨es, r, c⟩ := x
    obtain ⟨i1, i2, i3⟩ := hI
    dsimp only at i1 i2 i3 ⊢
    have hlen : t.length = (jT 1 0 es).length + r.length := by rw [i1.txt, List.length_append]
    have hdr : t.drop (t.length - r.length) = r := by
      have := i1.txt
      conv => lhs; rw [this]
      rw [List.length_append, Nat.add_sub_cancel, List.drop_left]
    have hc := jC_in es 1 0 (by omega)
    rw [← i1.ch] at hc
    rcases h60 : decide ((es.length : Int) < 60) with _ | _
    · have hl60 := of_decide_eq_false h60
      have e60 : es.length = 60 := by omega
      rw [e60] at i3
      have i3 : (es, r, c) = a := i3
      subst i3
      simp -dsimp -implicitDefEqProofs only [pick_nil, pick_cons, look_nil, look_cons, dropB_nil, dropB_cons, inD_nil, inD_cons, inE_nil, inE_cons, or_t_l, or_f_l, Nat.reduceBEq, Nat.reduceDiv, Nat.reduceAdd, beq_self_eq_true, Bool.false_eq_true, Bool.or_false, ↓reduceIte, Nat.reduceEqDiff, List.cons_append, List.nil_append]
      simp -dsimp -implicitDefEqProofs only [go_sem, ↓reduceIte, Nat.reduceEqDiff, Nat.reduceLT, Nat.reduceAdd, Nat.reduceMul, Nat.reduceLeDiff, Nat.le_refl, Int.natCast_zero, Int.toNat_natCast, Int.reduceToNat, h60]
      all_goals (first | omega | (refine ⟨?_, ?_⟩ <;> omega) | (exact rfl) | (simp; done) | (rw [hL]; done) | trace_state)
    · have hl60 := of_decide_eq_true h60
      obtain ⟨f, hf⟩ : ∃ f, 60 - es.length = f + 1 := ⟨60 - es.length - 1, by omega⟩
      rw [hf, recJ] at i3
      have hcut := c_Cut r 10 (by omega)
      have hcut2 := c_Cut (lineOf r) 32 (by have := part_len (c := 10) (l := r); show (lineOf r).length ≤ _; unfold lineOf; omega)
      have hll : (headOf (lineOf r)).length ≤ r.length := by
        have h1 := part_len (c := 32) (l := lineOf r)
        have h2 := part_len (c := 10) (l := r)
        unfold headOf lineOf at *; omega
      have hll1 : (lineOf r).length ≤ r.length := part_len
      have hpar := c_parted (headOf (lineOf r)) 44 (by omega)
      have hp64 := partN_64 (c := 44) (s := headOf (lineOf r))
      have hnx : nextE r es.length c = if (10 : UInt8) ∈ r ∧ (partN 44 (headOf (lineOf r))).2 = true ∧ (partN 44 (headOf (lineOf r))).1.length = 5 then
        if isJ (ev4 (partN 44 (headOf (lineOf r))).1) = true ∧ jLine c es.length (ev4 (partN 44 (headOf (lineOf r))).1) = lineOf r ++ [10] then some (ev4 (partN 44 (headOf (lineOf r))).1) else none
        else none := rfl
      have hstep := fun e => i1.step (e := e) (by omega)
      have e1 : (spl 10 r).headD [] = lineOf r := rfl
      have e2 : (spl 32 (lineOf r)).headD [] = headOf (lineOf r) := rfl
      rw [e1] at hcut
      rw [e2] at hcut2
      generalize headOf (lineOf r) = hd at *
      generalize lineOf r = line at *
      generalize partN 44 hd = p at *
      obtain ⟨L, hL⟩ : ∃ L, t.length - r.length = L := ⟨_, rfl⟩
      rw [hL] at hdr ⊢
      have hb0 : (!decide ((10 : UInt8) ∈ r)) = true → nextE r es.length c = none := fun q => by rw [hnx, if_neg]; intro w; simp [w.1] at q
      have hb1 : (!p.2) = true → nextE r es.length c = none := fun q => by rw [hnx, if_neg]; intro w; simp [w.2.1] at q
      have hb2 : ((p.1.length : Int) != 5) = true → nextE r es.length c = none := fun q => by rw [hnx, if_neg]; intro w; simp [w.2.2] at q
      have hnone : nextE r es.length c = none → a = (es, r, c) := fun q => by rw [q] at i3; exact i3.symm
      simp -dsimp -implicitDefEqProofs only [pick_nil, pick_cons, look_nil, look_cons, dropB_nil, dropB_cons, inD_nil, inD_cons, inE_nil, inE_cons, or_t_l, or_f_l, Nat.reduceBEq, Nat.reduceDiv, Nat.reduceAdd, beq_self_eq_true, Bool.false_eq_true, Bool.or_false, ↓reduceIte, Nat.reduceEqDiff, List.cons_append, List.nil_append]
      simp -dsimp -implicitDefEqProofs only [go_sem, ↓reduceIte, Nat.reduceEqDiff, Nat.reduceLT, Nat.reduceAdd, Nat.reduceMul, Nat.reduceLeDiff, Nat.le_refl, Int.natCast_zero, Int.toNat_natCast, Int.reduceToNat, h60]
      repeat' (with_reducible refine And.intro ?_ ?_)
      all_goals try (first | omega | (refine ⟨?_, ?_⟩ <;> omega))
      simp -dsimp -implicitDefEqProofs only [go_sem, ↓reduceIte, Nat.reduceEqDiff, Nat.reduceLT, Nat.reduceAdd, Nat.reduceMul, Nat.reduceLeDiff, Nat.le_refl, Int.natCast_zero, Int.toNat_natCast, Int.reduceToNat, hdr]
      repeat' (with_reducible refine And.intro ?_ ?_)
      all_goals try (first | omega | (refine ⟨?_, ?_, ?_⟩ <;> omega))
      refine sCallT_one hcut ?_
      simp -dsimp -implicitDefEqProofs only [go_sem, ↓reduceIte, Nat.reduceEqDiff, Nat.reduceLT, Nat.reduceAdd, Nat.reduceMul, Nat.reduceLeDiff, Nat.le_refl, Int.natCast_zero, Int.toNat_natCast, Int.reduceToNat]
      refine sCallT_one hcut2 ?_
      simp -dsimp -implicitDefEqProofs only [go_sem, ↓reduceIte, Nat.reduceEqDiff, Nat.reduceLT, Nat.reduceAdd, Nat.reduceMul, Nat.reduceLeDiff, Nat.le_refl, Int.natCast_zero, Int.toNat_natCast, Int.reduceToNat]
      refine sCallT_one hpar ?_
      rcases q0 : (!decide ((10 : UInt8) ∈ r)) with _ | _
      · rcases q1 : (!p.2) with _ | _
        · rcases q2 : ((p.1.length : Int) != 5) with _ | _
          · have hp2 : p.2 = true := by simpa using q1
            have hp5 : p.1.length = 5 := by simp at q2; omega
            have h10 : (10 : UInt8) ∈ r := by simpa using q0
            have hp64 := hp64 hp2
            rw [if_pos ⟨h10, hp2, hp5⟩] at hnx
            obtain ⟨pl, pb⟩ := p
            dsimp only at hp2 hp5 hp64 hnx q1 q2 hpar ⊢
            obtain ⟨x0, x1, x2, x3, x4, rfl⟩ := five hp5
            have he64 : Ev64 ⟨x1, x2, x3, x4⟩ := ⟨hp64 x1 (by simp), hp64 x2 (by simp), hp64 x3 (by simp), hp64 x4 (by simp)⟩
            have hev : ev4 [x0, x1, x2, x3, x4] = ⟨x1, x2, x3, x4⟩ := rfl
            rw [hev] at hnx
            have hcl := c_journalLine c es.length ⟨x1, x2, x3, x4⟩ hc (by omega) he64
            have hcj := c_isJournalEvent ⟨x1, x2, x3, x4⟩
            have hjl := jLine_len (k := es.length) hc (by omega) he64
            have hst := hstep ⟨x1, x2, x3, x4⟩
            have hcs := chain_in (jHead es.length ⟨x1, x2, x3, x4⟩) c hc
            have q55 : (((5 : Nat) : Int) != 5) = false := rfl
            simp -dsimp -implicitDefEqProofs only [go_sem, ↓reduceIte, Nat.reduceEqDiff, Nat.reduceLT, Nat.reduceAdd, Nat.reduceMul, Nat.reduceLeDiff, Nat.le_refl, Int.natCast_zero, Int.toNat_natCast, Int.reduceToNat, q0, q1, q2, q55]
            repeat' (with_reducible refine And.intro ?_ ?_)
            all_goals try (first | omega | (refine ⟨?_, ?_⟩ <;> omega) | (exact rfl))
            refine Later.draw mixed rfl ?_
            simp -dsimp -implicitDefEqProofs only [go_sem, ↓reduceIte, Nat.reduceEqDiff, Nat.reduceLT, Nat.reduceAdd, Nat.reduceMul, Nat.reduceLeDiff, Nat.le_refl, Int.natCast_zero, Int.toNat_natCast, Int.reduceToNat]
            repeat' (with_reducible refine And.intro ?_ ?_)
            all_goals try (first | omega | (refine ⟨?_, ?_⟩ <;> omega) | (exact rfl))
            refine sCallT_one hcl ?_
            simp -dsimp -implicitDefEqProofs only [go_sem, ↓reduceIte, Nat.reduceEqDiff, Nat.reduceLT, Nat.reduceAdd, Nat.reduceMul, Nat.reduceLeDiff, Nat.le_refl, Int.natCast_zero, Int.toNat_natCast, Int.reduceToNat]
            refine sCallT_one hcj ?_
            rcases q3 : isJ ⟨x1, x2, x3, x4⟩ with _ | _
            · rw [if_neg (by rw [q3]; rintro ⟨w, _⟩; cases w)] at hnx
              have ha2 := hnone hnx
              subst ha2
              simp -dsimp -implicitDefEqProofs only [go_sem, ↓reduceIte, Nat.reduceEqDiff, Nat.reduceLT, Nat.reduceAdd, Nat.reduceMul, Nat.reduceLeDiff, Nat.le_refl, Int.natCast_zero, Int.toNat_natCast, Int.reduceToNat, q3]
              repeat' (with_reducible refine And.intro ?_ ?_)
              all_goals (first | omega | (refine ⟨?_, ?_⟩ <;> omega) | (exact rfl) | (simp; done) | (rw [hL]; done) | trace_state)
            · rcases q4 : (!decide (jLine c es.length ⟨x1, x2, x3, x4⟩ = line ++ [10])) with _ | _
              · have q5 : jLine c es.length ⟨x1, x2, x3, x4⟩ = line ++ [10] := by simpa using q4
                rw [if_pos ⟨q3, q5⟩] at hnx
                rw [hnx] at i3
                have hst := hst hnx
                have hpre := ((nextE_iff (by omega)).1 hnx).2.length_le
                have hL2 : (jLine c es.length ⟨x1, x2, x3, x4⟩).length + L = t.length - (r.length - (jLine c es.length ⟨x1, x2, x3, x4⟩).length) := by omega
                simp -dsimp -implicitDefEqProofs only [go_sem, ↓reduceIte, Nat.reduceEqDiff, Nat.reduceLT, Nat.reduceAdd, Nat.reduceMul, Nat.reduceLeDiff, Nat.le_refl, Int.natCast_zero, Int.toNat_natCast, Int.reduceToNat, q3, q4]
                repeat' (with_reducible refine And.intro ?_ ?_)
                all_goals try (first | omega | (refine ⟨?_, ?_⟩ <;> omega))
                refine ⟨⟨es ++ [⟨x1, x2, x3, x4⟩], r.drop (jLine c es.length ⟨x1, x2, x3, x4⟩).length, chainOf c (jHead es.length ⟨x1, x2, x3, x4⟩)⟩, ⟨hst, by simp; omega, ?_⟩, by simp; omega, ?_⟩
                · dsimp only
                  rw [show 60 - (es ++ [(⟨x1, x2, x3, x4⟩ : EvM)]).length = f by simp; omega]
                  exact i3
                · clear i3 hst hnx hstep hpre
                  generalize jLine c es.length ⟨x1, x2, x3, x4⟩ = jl at *
                  simp -dsimp -implicitDefEqProofs only [go_sem, ↓reduceIte, Nat.reduceEqDiff, Nat.reduceLT, Nat.reduceAdd, Nat.reduceMul, Nat.reduceLeDiff, Nat.le_refl, Int.natCast_zero, Int.toNat_natCast, Int.reduceToNat]
                  repeat' (with_reducible refine And.intro ?_ ?_)
                  all_goals first | omega | (simp; done) | (simp; omega) | (exact rfl) | trace_state
              · have q5 : ¬ jLine c es.length ⟨x1, x2, x3, x4⟩ = line ++ [10] := by simpa using q4
                rw [if_neg (fun w => q5 w.2)] at hnx
                have ha2 := hnone hnx
                subst ha2
                simp -dsimp -implicitDefEqProofs only [go_sem, ↓reduceIte, Nat.reduceEqDiff, Nat.reduceLT, Nat.reduceAdd, Nat.reduceMul, Nat.reduceLeDiff, Nat.le_refl, Int.natCast_zero, Int.toNat_natCast, Int.reduceToNat, q3, q4]
                repeat' (with_reducible refine And.intro ?_ ?_)
                all_goals (first | omega | (refine ⟨?_, ?_⟩ <;> omega) | (exact rfl) | (simp; done) | (rw [hL]; done) | trace_state)
          · have ha2 := hnone (hb2 q2)
            subst ha2
            simp -dsimp -implicitDefEqProofs only [go_sem, ↓reduceIte, Nat.reduceEqDiff, Nat.reduceLT, Nat.reduceAdd, Nat.reduceMul, Nat.reduceLeDiff, Nat.le_refl, Int.natCast_zero, Int.toNat_natCast, Int.reduceToNat, q0, q1, q2]
            repeat' (with_reducible refine And.intro ?_ ?_)
            all_goals (first | omega | (refine ⟨?_, ?_⟩ <;> omega) | (exact rfl) | (simp; done) | (rw [hL]; done) | trace_state)
        · have ha2 := hnone (hb1 q1)
          subst ha2
          simp -dsimp -implicitDefEqProofs only [go_sem, ↓reduceIte, Nat.reduceEqDiff, Nat.reduceLT, Nat.reduceAdd, Nat.reduceMul, Nat.reduceLeDiff, Nat.le_refl, Int.natCast_zero, Int.toNat_natCast, Int.reduceToNat, q0, q1]
          repeat' (with_reducible refine And.intro ?_ ?_)
          all_goals (first | omega | (refine ⟨?_, ?_⟩ <;> omega) | (exact rfl) | (simp; done) | (rw [hL]; done) | trace_state)
      · have ha2 := hnone (hb0 q0)
        subst ha2
        simp -dsimp -implicitDefEqProofs only [go_sem, ↓reduceIte, Nat.reduceEqDiff, Nat.reduceLT, Nat.reduceAdd, Nat.reduceMul, Nat.reduceLeDiff, Nat.le_refl, Int.natCast_zero, Int.toNat_natCast, Int.reduceToNat, q0]
        repeat' (with_reducible refine And.intro ?_ ?_)
        all_goals (first | omega | (refine ⟨?_, ?_⟩ <;> omega) | (exact rfl) | (simp; done) | (rw [hL]; done) | trace_state)
end Go.Vc
/-
  Contracts: journals, as the reference writes and reads them.
-/
set_option linter.unusedVariables false
set_option linter.unusedSimpArgs false
set_option linter.unnecessarySimpa false
namespace Go.Vc
open Go.Proofs Go.Lib
set_option maxRecDepth 100000
theorem c_l31Event (e : EvM) : Fn Tryz.prog 46 [eEv e] true (· = eB (isJ e)) := by
  refine Fn.of_vcN 28 [.tmp 2] Tryz.func46 rfl rfl rfl rfl rfl (of_decide_eq_true rfl) ?_
  simp -dsimp -implicitDefEqProofs only [go_sem, ↓reduceIte, Nat.reduceEqDiff, Nat.reduceLT, Nat.reduceAdd, Nat.reduceMul, Nat.reduceLeDiff, Nat.le_refl, Int.natCast_zero, Int.toNat_natCast, Int.reduceToNat]
  repeat' first
    | (refine Br.intro (fun _ => ?_) (fun _ => ?_) <;> try simp -dsimp -implicitDefEqProofs only [go_sem, ↓reduceIte, Nat.reduceEqDiff, Nat.reduceLT, Nat.reduceAdd, Nat.reduceMul, Nat.reduceLeDiff, Nat.le_refl, Int.natCast_zero, Int.toNat_natCast, Int.reduceToNat, *])
    | (with_reducible refine And.intro ?_ ?_)
    | (refine sCallT_one (c_l01In _ _ _) ?_; try simp -dsimp -implicitDefEqProofs only [go_sem, ↓reduceIte, Nat.reduceEqDiff, Nat.reduceLT, Nat.reduceAdd, Nat.reduceMul, Nat.reduceLeDiff, Nat.le_refl, Int.natCast_zero, Int.toNat_natCast, Int.reduceToNat, *])
  all_goals first | omega | (refine ⟨?_, ?_⟩ <;> omega) | rfl | (simp; done) | (simp_all [isJ, isEvent]; done) | (simp_all [isJ, isEvent]; omega) | (simp_all [isJ, isEvent]; split <;> simp_all <;> omega) | trace_state
/-- an event that can be written -/
def EvD (e : EvM) : Prop := (0 ≤ e.kind ∧ e.kind ≤ 100000000000000) ∧ (0 ≤ e.tag ∧ e.tag ≤ 100000000000000) ∧ (-1 ≤ e.person ∧ e.person ≤ 100000000000000) ∧ (0 ≤ e.who ∧ e.who ≤ 100000000000000)
theorem EvD.e64 {e : EvM} (h : EvD e) : Ev64 e := by
  obtain ⟨h1, h2, h3, h4⟩ := h
  refine ⟨?_, ?_, ?_, ?_⟩ <;> unfold I64 <;> omega
theorem isJ_D {e : EvM} (h : isJ e = true) : EvD e := by
  obtain ⟨h1, h2, h3, h4⟩ := isJ_in h
  unfold EvD; omega
theorem itoa_m1 : itoa (-1) = [45, 49] := by
  rw [itoa, if_pos (by decide), show (-1 : Int).natAbs = 1 from rfl, decDigits, dif_pos (by decide)]; rfl
theorem c_l31Head (k : Nat) (e : EvM) (hk : k ≤ 1000000) (h : EvD e) : Fn Tryz.prog 50 [eI k, eEv e] true (· = eS (jHead k e)) := by
  refine Fn.of_vcN 32 [.tmp 4] Tryz.func50 rfl rfl rfl rfl rfl (of_decide_eq_true rfl) ?_
  have h64 := h.e64
  obtain ⟨h1, h2, h3, h4⟩ := h
  have l0 := itoa_len (i64_of (n := (k : Int)) (by omega))
  have l1 := itoa_len h64.1
  have l2 := itoa_len h64.2.1
  have l3 := itoa_len h64.2.2.1
  have l4 := itoa_len h64.2.2.2
  have hJ : jHead k e = itoa k ++ [44] ++ itoa e.kind ++ [44] ++ itoa e.tag ++ [44] ++ itoa e.person ++ [44] ++ itoa e.who := by simp [jHead]
  rw [hJ]
  clear hJ h64
  have c0 := c_l01DecI (k : Int) (by omega)
  have c1 := c_l01DecI e.kind (by omega)
  have c2 := c_l01DecI e.tag (by omega)
  have c4 := c_l01DecI e.who (by omega)
  obtain ⟨x1, x2, x3, x4⟩ := e
  dsimp only at *
  simp -dsimp -implicitDefEqProofs only [go_sem, ↓reduceIte, Nat.reduceEqDiff, Nat.reduceLT, Nat.reduceAdd, Nat.reduceMul, Nat.reduceLeDiff, Nat.le_refl, Int.natCast_zero, Int.toNat_natCast, Int.reduceToNat]
  rcases hp : decide (x3 ≥ 0) with _ | _
  · have : x3 = -1 := by have := of_decide_eq_false hp; omega
    subst this
    rw [itoa_m1] at l3 ⊢
    generalize itoa (k : Int) = a0 at *
    generalize itoa x1 = a1 at *
    generalize itoa x2 = a2 at *
    generalize itoa x4 = a4 at *
    simp -dsimp -implicitDefEqProofs only [go_sem, ↓reduceIte, Nat.reduceEqDiff, Nat.reduceLT, Nat.reduceAdd, Nat.reduceMul, Nat.reduceLeDiff, Nat.le_refl, Int.natCast_zero, Int.toNat_natCast, Int.reduceToNat, hp]
    refine Later.draw mixed rfl ?_
    simp -dsimp -implicitDefEqProofs only [go_sem, ↓reduceIte, Nat.reduceEqDiff, Nat.reduceLT, Nat.reduceAdd, Nat.reduceMul, Nat.reduceLeDiff, Nat.le_refl, Int.natCast_zero, Int.toNat_natCast, Int.reduceToNat]
    refine sCallX_one c0 ?_
    simp -dsimp -implicitDefEqProofs only [go_sem, ↓reduceIte, Nat.reduceEqDiff, Nat.reduceLT, Nat.reduceAdd, Nat.reduceMul, Nat.reduceLeDiff, Nat.le_refl, Int.natCast_zero, Int.toNat_natCast, Int.reduceToNat]
    repeat' first
      | (with_reducible refine And.intro ?_ ?_)
      | (refine sCallX_one c1 ?_; simp -dsimp -implicitDefEqProofs only [go_sem, ↓reduceIte, Nat.reduceEqDiff, Nat.reduceLT, Nat.reduceAdd, Nat.reduceMul, Nat.reduceLeDiff, Nat.le_refl, Int.natCast_zero, Int.toNat_natCast, Int.reduceToNat])
      | (refine sCallX_one c2 ?_; simp -dsimp -implicitDefEqProofs only [go_sem, ↓reduceIte, Nat.reduceEqDiff, Nat.reduceLT, Nat.reduceAdd, Nat.reduceMul, Nat.reduceLeDiff, Nat.le_refl, Int.natCast_zero, Int.toNat_natCast, Int.reduceToNat])
      | (refine sCallX_one c4 ?_; simp -dsimp -implicitDefEqProofs only [go_sem, ↓reduceIte, Nat.reduceEqDiff, Nat.reduceLT, Nat.reduceAdd, Nat.reduceMul, Nat.reduceLeDiff, Nat.le_refl, Int.natCast_zero, Int.toNat_natCast, Int.reduceToNat])
    all_goals first | omega | (refine ⟨?_, ?_⟩ <;> omega) | (simp; done) | (simp; omega) | (exact rfl) | trace_state
  · have := of_decide_eq_true hp
    have c3 := c_l01DecI x3 (by omega)
    generalize itoa (k : Int) = a0 at *
    generalize itoa x1 = a1 at *
    generalize itoa x2 = a2 at *
    generalize itoa x4 = a4 at *
    generalize itoa x3 = a3 at *
    simp -dsimp -implicitDefEqProofs only [go_sem, ↓reduceIte, Nat.reduceEqDiff, Nat.reduceLT, Nat.reduceAdd, Nat.reduceMul, Nat.reduceLeDiff, Nat.le_refl, Int.natCast_zero, Int.toNat_natCast, Int.reduceToNat, hp]
    refine sCallT_one c3 ?_
    simp -dsimp -implicitDefEqProofs only [go_sem, ↓reduceIte, Nat.reduceEqDiff, Nat.reduceLT, Nat.reduceAdd, Nat.reduceMul, Nat.reduceLeDiff, Nat.le_refl, Int.natCast_zero, Int.toNat_natCast, Int.reduceToNat]
    refine Later.draw mixed rfl ?_
    simp -dsimp -implicitDefEqProofs only [go_sem, ↓reduceIte, Nat.reduceEqDiff, Nat.reduceLT, Nat.reduceAdd, Nat.reduceMul, Nat.reduceLeDiff, Nat.le_refl, Int.natCast_zero, Int.toNat_natCast, Int.reduceToNat]
    refine sCallX_one c0 ?_
    simp -dsimp -implicitDefEqProofs only [go_sem, ↓reduceIte, Nat.reduceEqDiff, Nat.reduceLT, Nat.reduceAdd, Nat.reduceMul, Nat.reduceLeDiff, Nat.le_refl, Int.natCast_zero, Int.toNat_natCast, Int.reduceToNat]
    repeat' first
      | (with_reducible refine And.intro ?_ ?_)
      | (refine sCallX_one c1 ?_; simp -dsimp -implicitDefEqProofs only [go_sem, ↓reduceIte, Nat.reduceEqDiff, Nat.reduceLT, Nat.reduceAdd, Nat.reduceMul, Nat.reduceLeDiff, Nat.le_refl, Int.natCast_zero, Int.toNat_natCast, Int.reduceToNat])
      | (refine sCallX_one c2 ?_; simp -dsimp -implicitDefEqProofs only [go_sem, ↓reduceIte, Nat.reduceEqDiff, Nat.reduceLT, Nat.reduceAdd, Nat.reduceMul, Nat.reduceLeDiff, Nat.le_refl, Int.natCast_zero, Int.toNat_natCast, Int.reduceToNat])
      | (refine sCallX_one c4 ?_; simp -dsimp -implicitDefEqProofs only [go_sem, ↓reduceIte, Nat.reduceEqDiff, Nat.reduceLT, Nat.reduceAdd, Nat.reduceMul, Nat.reduceLeDiff, Nat.le_refl, Int.natCast_zero, Int.toNat_natCast, Int.reduceToNat])
    all_goals first | omega | (refine ⟨?_, ?_⟩ <;> omega) | (simp; done) | (simp; omega) | (exact rfl) | trace_state
theorem c_l31Chain (c : Int) (w : List UInt8) (hc : 0 ≤ c ∧ c ≤ 9972) (hw : w.length ≤ 1048576) : Fn Tryz.prog 49 [eI c, eS w] true (· = eI (chainOf c w)) := by
  refine Fn.of_vcN 21 [.tmp 4] Tryz.func49 rfl rfl rfl rfl rfl (of_decide_eq_true rfl) ?_
  have hin := fun i => chain_in (w.take i) c hc
  have hct := chain_take c w
  simp -dsimp -implicitDefEqProofs only [go_sem, ↓reduceIte, Nat.reduceEqDiff, Nat.reduceLT, Nat.reduceAdd, Nat.reduceMul, Nat.reduceLeDiff, Nat.le_refl, Int.natCast_zero, Int.toNat_natCast, Int.reduceToNat]
  refine Later.up [1] [8] [] w.length (fun _ => True) (fun i => [(0, eI (chainOf c (w.take i))), (5, eI i)]) (fun _ => []) trivial ?_ rfl (fun i hi _ => ?_) (fun _ => ?_)
  · simp -dsimp -implicitDefEqProofs only [go_sem, ↓reduceIte, Nat.reduceEqDiff, Nat.reduceLT, Nat.reduceAdd, Nat.reduceMul, Nat.reduceLeDiff, Nat.le_refl, Int.natCast_zero, Int.toNat_natCast, Int.reduceToNat]
    simp [chainOf]
  · have h1 := hin i
    have h2 := hct i hi
    have hb := (w[i]).toNat_lt
    have hg : (w.getD i 0) = w[i] := by rw [List.getD_eq_getElem?_getD, List.getElem?_eq_getElem hi]; rfl
    rw [h2]
    clear h2 hct hin
    generalize w[i] = b at *
    generalize chainOf c (w.take i) = z at *
    simp -dsimp -implicitDefEqProofs only [pick_nil, pick_cons, look_nil, look_cons, dropB_nil, dropB_cons, inD_nil, inD_cons, inE_nil, inE_cons, or_t_l, or_f_l, Nat.reduceBEq, Nat.reduceDiv, Nat.reduceAdd, beq_self_eq_true, Bool.false_eq_true, Bool.or_false, ↓reduceIte, Nat.reduceEqDiff, List.cons_append, List.nil_append]
    simp -dsimp -implicitDefEqProofs only [go_sem, ↓reduceIte, Nat.reduceEqDiff, Nat.reduceLT, Nat.reduceAdd, Nat.reduceMul, Nat.reduceLeDiff, Nat.le_refl, Int.natCast_zero, Int.toNat_natCast, Int.reduceToNat, lt_len hi, hg]
    repeat' (with_reducible refine And.intro ?_ ?_)
    all_goals (first | omega | (refine ⟨?_, ?_⟩ <;> omega) | (exact rfl) | (simp; done) | trace_state)
  · rw [List.take_length]
    simp -dsimp -implicitDefEqProofs only [pick_nil, pick_cons, look_nil, look_cons, dropB_nil, dropB_cons, inD_nil, inD_cons, inE_nil, inE_cons, or_t_l, or_f_l, Nat.reduceBEq, Nat.reduceDiv, Nat.reduceAdd, beq_self_eq_true, Bool.false_eq_true, Bool.or_false, ↓reduceIte, Nat.reduceEqDiff, List.cons_append, List.nil_append]
    simp -dsimp -implicitDefEqProofs only [go_sem, ↓reduceIte, Nat.reduceEqDiff, Nat.reduceLT, Nat.reduceAdd, Nat.reduceMul, Nat.reduceLeDiff, Nat.le_refl, Int.natCast_zero, Int.toNat_natCast, Int.reduceToNat, nlt_len]
theorem c_l31Text (es : List EvM) (h : es.length ≤ 1000) (hd : ∀ e ∈ es, EvD e) : Fn Tryz.prog 72 [eEvs es] true (· = eS (jT 1 0 es)) := by
  refine Fn.of_vcN 31 [.tmp 2] Tryz.func72 rfl rfl rfl rfl rfl (of_decide_eq_true rfl) ?_
  simp -dsimp -implicitDefEqProofs only [go_sem, ↓reduceIte, Nat.reduceEqDiff, Nat.reduceLT, Nat.reduceAdd, Nat.reduceMul, Nat.reduceLeDiff, Nat.le_refl, Int.natCast_zero, Int.toNat_natCast, Int.reduceToNat]
  refine Later.up [0] [9, 18, 21, 27] [] es.length (fun _ => True) (fun i => [(3, eS (jT 1 0 (es.take i))), (4, eI (jC 1 0 (es.take i))), (5, eI i)]) (fun _ => []) trivial ?_ rfl (fun i hi _ => ?_) (fun _ => ?_)
  · simp -dsimp -implicitDefEqProofs only [go_sem, ↓reduceIte, Nat.reduceEqDiff, Nat.reduceLT, Nat.reduceAdd, Nat.reduceMul, Nat.reduceLeDiff, Nat.le_refl, Int.natCast_zero, Int.toNat_natCast, Int.reduceToNat]
    exact ⟨rfl, rfl⟩
  · have gi := get_some hi
    have hD := hd es[i] (List.getElem_mem hi)
    have h1 := jT_len (es.take i) 1 0 (by omega) (by simp; omega) fun e he => (hd e (List.mem_of_mem_take he)).e64
    have h2 := jC_in (es.take i) 1 0 (by omega)
    have hlt : (es.take i).length ≤ 1000 := by simp; omega
    rw [jT_take hi, jC_take hi]
    generalize es[i] = e at *
    generalize jT 1 0 (es.take i) = T at *
    generalize jC 1 0 (es.take i) = C at *
    have hch := chain_in (jHead i e) C h2
    have hhl := jHead_len (k := i) (by omega) hD.e64
    have hcH := c_l31Head i e (by omega) hD
    have hcC := c_l31Chain C (jHead i e) h2 (by omega)
    have hcD := c_l01DecI (chainOf C (jHead i e)) (by omega)
    have hil := itoa_len (i64_of (n := chainOf C (jHead i e)) (by omega))
    have hJ : T ++ jLine C i e = T ++ jHead i e ++ [32] ++ itoa (chainOf C (jHead i e)) ++ [10] := by simp [jLine, jBody]
    rw [hJ]
    clear hJ
    generalize jHead i e = w at *
    generalize chainOf C w = C2 at *
    generalize itoa C2 = d at *
    simp -dsimp -implicitDefEqProofs only [pick_nil, pick_cons, look_nil, look_cons, dropB_nil, dropB_cons, inD_nil, inD_cons, inE_nil, inE_cons, or_t_l, or_f_l, Nat.reduceBEq, Nat.reduceDiv, Nat.reduceAdd, beq_self_eq_true, Bool.false_eq_true, Bool.or_false, ↓reduceIte, Nat.reduceEqDiff, List.cons_append, List.nil_append]
    simp -dsimp -implicitDefEqProofs only [go_sem, ↓reduceIte, Nat.reduceEqDiff, Nat.reduceLT, Nat.reduceAdd, Nat.reduceMul, Nat.reduceLeDiff, Nat.le_refl, Int.natCast_zero, Int.toNat_natCast, Int.reduceToNat, lt_len hi, gi]
    repeat' (with_reducible refine And.intro ?_ ?_)
    all_goals try (first | omega | (refine ⟨?_, ?_⟩ <;> omega))
    refine sCallT_one hcH ?_
    simp -dsimp -implicitDefEqProofs only [go_sem, ↓reduceIte, Nat.reduceEqDiff, Nat.reduceLT, Nat.reduceAdd, Nat.reduceMul, Nat.reduceLeDiff, Nat.le_refl, Int.natCast_zero, Int.toNat_natCast, Int.reduceToNat]
    refine sCallT_one hcC ?_
    simp -dsimp -implicitDefEqProofs only [go_sem, ↓reduceIte, Nat.reduceEqDiff, Nat.reduceLT, Nat.reduceAdd, Nat.reduceMul, Nat.reduceLeDiff, Nat.le_refl, Int.natCast_zero, Int.toNat_natCast, Int.reduceToNat]
    repeat' (with_reducible refine And.intro ?_ ?_)
    all_goals try (first | omega | (refine ⟨?_, ?_⟩ <;> omega) | (simp; omega))
    refine sCallT_one hcD ?_
    simp -dsimp -implicitDefEqProofs only [go_sem, ↓reduceIte, Nat.reduceEqDiff, Nat.reduceLT, Nat.reduceAdd, Nat.reduceMul, Nat.reduceLeDiff, Nat.le_refl, Int.natCast_zero, Int.toNat_natCast, Int.reduceToNat]
    repeat' (with_reducible refine And.intro ?_ ?_)
    all_goals first | omega | (refine ⟨?_, ?_⟩ <;> omega) | (simp; done) | (simp; omega) | (exact rfl) | trace_state
  · rw [List.take_length]
    simp -dsimp -implicitDefEqProofs only [pick_nil, pick_cons, look_nil, look_cons, dropB_nil, dropB_cons, inD_nil, inD_cons, inE_nil, inE_cons, or_t_l, or_f_l, Nat.reduceBEq, Nat.reduceDiv, Nat.reduceAdd, beq_self_eq_true, Bool.false_eq_true, Bool.or_false, ↓reduceIte, Nat.reduceEqDiff, List.cons_append, List.nil_append]
    simp -dsimp -implicitDefEqProofs only [go_sem, ↓reduceIte, Nat.reduceEqDiff, Nat.reduceLT, Nat.reduceAdd, Nat.reduceMul, Nat.reduceLeDiff, Nat.le_refl, Int.natCast_zero, Int.toNat_natCast, Int.reduceToNat, nlt_len]
def jWrite (es : List EvM) : List UInt8 × Int := if es.length > 60 then ([], 3) else if (jT 1 0 es).length > 1000 then ([], 3) else (jT 1 0 es, 0)
theorem c_l31Write (es : List EvM) (h : es.length ≤ 1048576) (hd : ∀ e ∈ es, EvD e) : Fn Tryz.prog 47 [eEvs es] true (· = .tup [eS (jWrite es).1, eI (jWrite es).2]) := by
  refine Fn.of_vcN 14 [.tmp 2, .tmp 3] Tryz.func47 rfl rfl rfl rfl rfl (of_decide_eq_true rfl) ?_
  unfold jWrite
  simp -dsimp -implicitDefEqProofs only [go_sem, ↓reduceIte, Nat.reduceEqDiff, Nat.reduceLT, Nat.reduceAdd, Nat.reduceMul, Nat.reduceLeDiff, Nat.le_refl, Int.natCast_zero, Int.toNat_natCast, Int.reduceToNat]
  rcases h60 : decide ((es.length : Int) > 60) with _ | _
  · have := of_decide_eq_false h60
    rw [if_neg (by omega)]
    simp -dsimp -implicitDefEqProofs only [go_sem, ↓reduceIte, Nat.reduceEqDiff, Nat.reduceLT, Nat.reduceAdd, Nat.reduceMul, Nat.reduceLeDiff, Nat.le_refl, Int.natCast_zero, Int.toNat_natCast, Int.reduceToNat, h60]
    refine sCallT_one (c_l31Text es (by omega) hd) ?_
    rcases hk : decide (((jT 1 0 es).length : Int) > 1000) with _ | _
    · have := of_decide_eq_false hk
      rw [if_neg (by omega)]
      simp -dsimp -implicitDefEqProofs only [go_sem, ↓reduceIte, Nat.reduceEqDiff, Nat.reduceLT, Nat.reduceAdd, Nat.reduceMul, Nat.reduceLeDiff, Nat.le_refl, Int.natCast_zero, Int.toNat_natCast, Int.reduceToNat, hk]
    · have := of_decide_eq_true hk
      rw [if_pos (by omega)]
      simp -dsimp -implicitDefEqProofs only [go_sem, ↓reduceIte, Nat.reduceEqDiff, Nat.reduceLT, Nat.reduceAdd, Nat.reduceMul, Nat.reduceLeDiff, Nat.le_refl, Int.natCast_zero, Int.toNat_natCast, Int.reduceToNat, hk]
  · have := of_decide_eq_true h60
    rw [if_pos (by omega)]
    simp -dsimp -implicitDefEqProofs only [go_sem, ↓reduceIte, Nat.reduceEqDiff, Nat.reduceLT, Nat.reduceAdd, Nat.reduceMul, Nat.reduceLeDiff, Nat.le_refl, Int.natCast_zero, Int.toNat_natCast, Int.reduceToNat, h60]
theorem c_sJournalText (es : List EvM) (h : es.length ≤ 1048576) : Fn Tryz.prog 44 [eEvs es] true (· = .tup [eS (jText es).1, eI (jText es).2]) := by
  refine Fn.of_vcN 21 [.tmp 2, .tmp 3] Tryz.func44 rfl rfl rfl rfl rfl (of_decide_eq_true rfl) ?_
  unfold jText
  simp -dsimp -implicitDefEqProofs only [go_sem, ↓reduceIte, Nat.reduceEqDiff, Nat.reduceLT, Nat.reduceAdd, Nat.reduceMul, Nat.reduceLeDiff, Nat.le_refl, Int.natCast_zero, Int.toNat_natCast, Int.reduceToNat]
  refine Later.up [0] [7, 15] [] es.length (fun i => ((es.take i).all isJ) = true) (fun i => [(4, eI i)]) (fun _ => []) rfl ?_ rfl (fun i hi hI => ?_) (fun hI => ?_)
  · simp -dsimp -implicitDefEqProofs only [go_sem, ↓reduceIte, Nat.reduceEqDiff, Nat.reduceLT, Nat.reduceAdd, Nat.reduceMul, Nat.reduceLeDiff, Nat.le_refl, Int.natCast_zero, Int.toNat_natCast, Int.reduceToNat]
  · have gi := get_some hi
    have hall := all_take isJ es i hi
    have hno := fun h => all_no (p := isJ) hi h
    generalize es[i] = e at *
    rcases hq : isJ e with _ | _
    · have hz := hno hq
      simp -dsimp -implicitDefEqProofs only [pick_nil, pick_cons, look_nil, look_cons, dropB_nil, dropB_cons, inD_nil, inD_cons, inE_nil, inE_cons, or_t_l, or_f_l, Nat.reduceBEq, Nat.reduceDiv, Nat.reduceAdd, beq_self_eq_true, Bool.false_eq_true, Bool.or_false, ↓reduceIte, Nat.reduceEqDiff, List.cons_append, List.nil_append]
      simp -dsimp -implicitDefEqProofs only [go_sem, ↓reduceIte, Nat.reduceEqDiff, Nat.reduceLT, Nat.reduceAdd, Nat.reduceMul, Nat.reduceLeDiff, Nat.le_refl, Int.natCast_zero, Int.toNat_natCast, Int.reduceToNat, lt_len hi, gi]
      repeat' (with_reducible refine And.intro ?_ ?_)
      all_goals try (first | omega | (refine ⟨?_, ?_⟩ <;> omega))
      refine sCallT_one (c_l31Event e) ?_
      simp -dsimp -implicitDefEqProofs only [go_sem, ↓reduceIte, Nat.reduceEqDiff, Nat.reduceLT, Nat.reduceAdd, Nat.reduceMul, Nat.reduceLeDiff, Nat.le_refl, Int.natCast_zero, Int.toNat_natCast, Int.reduceToNat, hq]
      rw [if_neg (by rw [hz]; decide)]
      all_goals first | (exact rfl) | (simp; done) | trace_state
    · simp -dsimp -implicitDefEqProofs only [pick_nil, pick_cons, look_nil, look_cons, dropB_nil, dropB_cons, inD_nil, inD_cons, inE_nil, inE_cons, or_t_l, or_f_l, Nat.reduceBEq, Nat.reduceDiv, Nat.reduceAdd, beq_self_eq_true, Bool.false_eq_true, Bool.or_false, ↓reduceIte, Nat.reduceEqDiff, List.cons_append, List.nil_append]
      simp -dsimp -implicitDefEqProofs only [go_sem, ↓reduceIte, Nat.reduceEqDiff, Nat.reduceLT, Nat.reduceAdd, Nat.reduceMul, Nat.reduceLeDiff, Nat.le_refl, Int.natCast_zero, Int.toNat_natCast, Int.reduceToNat, lt_len hi, gi]
      repeat' (with_reducible refine And.intro ?_ ?_)
      all_goals try (first | omega | (refine ⟨?_, ?_⟩ <;> omega))
      refine sCallT_one (c_l31Event e) ?_
      simp -dsimp -implicitDefEqProofs only [go_sem, ↓reduceIte, Nat.reduceEqDiff, Nat.reduceLT, Nat.reduceAdd, Nat.reduceMul, Nat.reduceLeDiff, Nat.le_refl, Int.natCast_zero, Int.toNat_natCast, Int.reduceToNat, hq]
      repeat' (with_reducible refine And.intro ?_ ?_)
      all_goals first | omega | (refine ⟨?_, ?_⟩ <;> omega) | (rw [hall, hI, hq]; rfl) | (simp; done) | trace_state
  · rw [List.take_length] at hI
    rw [if_pos hI]
    have hw := c_l31Write es h fun e he => isJ_D (List.all_eq_true.1 hI e he)
    unfold jWrite at hw
    simp -dsimp -implicitDefEqProofs only [pick_nil, pick_cons, look_nil, look_cons, dropB_nil, dropB_cons, inD_nil, inD_cons, inE_nil, inE_cons, or_t_l, or_f_l, Nat.reduceBEq, Nat.reduceDiv, Nat.reduceAdd, beq_self_eq_true, Bool.false_eq_true, Bool.or_false, ↓reduceIte, Nat.reduceEqDiff, List.cons_append, List.nil_append]
    simp -dsimp -implicitDefEqProofs only [go_sem, ↓reduceIte, Nat.reduceEqDiff, Nat.reduceLT, Nat.reduceAdd, Nat.reduceMul, Nat.reduceLeDiff, Nat.le_refl, Int.natCast_zero, Int.toNat_natCast, Int.reduceToNat, nlt_len]
    refine sCallT_one hw ?_
    simp -dsimp -implicitDefEqProofs only [go_sem, ↓reduceIte, Nat.reduceEqDiff, Nat.reduceLT, Nat.reduceAdd, Nat.reduceMul, Nat.reduceLeDiff, Nat.le_refl, Int.natCast_zero, Int.toNat_natCast, Int.reduceToNat]
end Go.Vc
/-
  Contracts: journals, as the reference reads them.
-/
set_option linter.unusedVariables false
set_option linter.unusedSimpArgs false
set_option linter.unnecessarySimpa false
namespace Go.Vc
open Go.Proofs Go.Lib
set_option maxRecDepth 100000
theorem spl_get0 (c : UInt8) (l : List UInt8) : (spl c l)[0]? = some ((spl c l).headD []) := by
  have := spl_ne c l
  cases h : spl c l with
  | nil => exact absurd h this
  | cons a r => rfl
theorem spl_pos (c : UInt8) (l : List UInt8) : 0 < (spl c l).length := List.length_pos_iff.2 (spl_ne c l)
abbrev vN (ws : List (List UInt8)) (j : Nat) : Int × Bool := valP (j + 1) (ws.getD (j + 1) [])
abbrev vNs (ws : List (List UInt8)) (i : Nat) : List Int := (List.range i).map fun j => (vN ws j).1
theorem vNs_succ (ws : List (List UInt8)) (i : Nat) : vNs ws (i + 1) = vNs ws i ++ [(vN ws i).1] := by simp [vNs, List.range_succ]
theorem eq_m1 (w : List UInt8) : (decide (w = [45, 49])) = true ↔ w = [45, 49] := by simp
set_option maxHeartbeats 4000000 in
theorem c_l31Line (line : List UInt8) (h : line.length ≤ 1048576) : Fn Tryz.prog 79 [eS line] true (· = .tup [eEv (lineE line).1, eB (lineE line).2]) := by
  refine Fn.of_vcN 64 [.cell 2 39, .tmp 3] Tryz.func79 rfl rfl rfl rfl rfl (of_decide_eq_true rfl) ?_
  have g0 := spl_get0 32 line
  have p0 := spl_pos 32 line
  have hd : (headOf line).length ≤ line.length := part_len
  have hdef : (spl 32 line).headD [] = headOf line := rfl
  rw [hdef] at g0
  clear hdef
  have hpl := spl_part_len 44 (headOf line)
  have hs2 := c_l01Split (headOf line) 44 (by omega)
  unfold lineE
  generalize headOf line = hdl at *
  generalize spl 44 hdl = ws at *
  simp -dsimp -implicitDefEqProofs only [go_sem, ↓reduceIte, Nat.reduceEqDiff, Nat.reduceLT, Nat.reduceAdd, Nat.reduceMul, Nat.reduceLeDiff, Nat.le_refl, Int.natCast_zero, Int.toNat_natCast, Int.reduceToNat]
  refine sCallT_one (c_l01Split line 32 h) ?_
  simp -dsimp -implicitDefEqProofs only [go_sem, ↓reduceIte, Nat.reduceEqDiff, Nat.reduceLT, Nat.reduceAdd, Nat.reduceMul, Nat.reduceLeDiff, Nat.le_refl, Int.natCast_zero, Int.toNat_natCast, Int.reduceToNat, g0]
  repeat' (with_reducible refine And.intro ?_ ?_)
  all_goals try (first | omega | (refine ⟨?_, ?_⟩ <;> omega))
  refine sCallT_one hs2 ?_
  rcases h5 : ((ws.length : Int) != 5) with _ | _
  · have e5 : ws.length = 5 := by simp at h5; omega
    simp -dsimp -implicitDefEqProofs only [go_sem, ↓reduceIte, Nat.reduceEqDiff, Nat.reduceLT, Nat.reduceAdd, Nat.reduceMul, Nat.reduceLeDiff, Nat.le_refl, Int.natCast_zero, Int.toNat_natCast, Int.reduceToNat, h5]
    refine Later.lp [2, 4] [29, 46, 47] [19] (fun i : Nat => i ≤ 4 ∧ ∀ j, j < i → (vN ws j).2 = true) (fun i => [(5, .ref 19 0 0 i), (6, eI ((i : Int) + 1))]) (fun i => [(19, .row 0 ⟨1, false⟩ true ((vNs ws i).map eI))]) (fun i => 4 - i) 0 ⟨by omega, fun j hj => by omega⟩ ?_ rfl (fun i hI => ?_)
    · simp -dsimp -implicitDefEqProofs only [go_sem, ↓reduceIte, Nat.reduceEqDiff, Nat.reduceLT, Nat.reduceAdd, Nat.reduceMul, Nat.reduceLeDiff, Nat.le_refl, Int.natCast_zero, Int.toNat_natCast, Int.reduceToNat]
      simp [vNs]
    · obtain ⟨i1, i2⟩ := hI
      rcases hi : decide (((i : Int) + 1) < 5) with _ | _
      · have e4 : i = 4 := by have := of_decide_eq_false hi; omega
        subst e4
        have v0 := i2 0 (by omega)
        have v1 := i2 1 (by omega)
        have v2 := i2 2 (by omega)
        have v3 := i2 3 (by omega)
        rw [if_pos ⟨e5, v0, v1, v2, v3⟩]
        have hvs : (vNs ws 4).map eI = [eI (valP 1 (ws.getD 1 [])).1, eI (valP 2 (ws.getD 2 [])).1, eI (valP 3 (ws.getD 3 [])).1, eI (valP 4 (ws.getD 4 [])).1] := rfl
        rw [hvs]
        clear i2 v0 v1 v2 v3 hvs
        generalize (valP 1 (ws.getD 1 [])).1 = x1 at *
        generalize (valP 2 (ws.getD 2 [])).1 = x2 at *
        generalize (valP 3 (ws.getD 3 [])).1 = x3 at *
        generalize (valP 4 (ws.getD 4 [])).1 = x4 at *
        simp -dsimp -implicitDefEqProofs only [pick_nil, pick_cons, look_nil, look_cons, dropB_nil, dropB_cons, inD_nil, inD_cons, inE_nil, inE_cons, or_t_l, or_f_l, Nat.reduceBEq, Nat.reduceDiv, Nat.reduceAdd, beq_self_eq_true, Bool.false_eq_true, Bool.or_false, ↓reduceIte, Nat.reduceEqDiff, List.cons_append, List.nil_append]
        simp -dsimp -implicitDefEqProofs only [go_sem, ↓reduceIte, Nat.reduceEqDiff, Nat.reduceLT, Nat.reduceAdd, Nat.reduceMul, Nat.reduceLeDiff, Nat.le_refl, Int.natCast_zero, Int.toNat_natCast, Int.reduceToNat, hi]
        refine Later.draw mixed rfl ?_
        simp -dsimp -implicitDefEqProofs only [go_sem, ↓reduceIte, Nat.reduceEqDiff, Nat.reduceLT, Nat.reduceAdd, Nat.reduceMul, Nat.reduceLeDiff, Nat.le_refl, Int.natCast_zero, Int.toNat_natCast, Int.reduceToNat]
        repeat' (with_reducible refine And.intro ?_ ?_)
        all_goals try (first | omega | (refine ⟨?_, ?_⟩ <;> omega) | (exact rfl))
        refine Later.draw mixed rfl ?_
        simp -dsimp -implicitDefEqProofs only [go_sem, ↓reduceIte, Nat.reduceEqDiff, Nat.reduceLT, Nat.reduceAdd, Nat.reduceMul, Nat.reduceLeDiff, Nat.le_refl, Int.natCast_zero, Int.toNat_natCast, Int.reduceToNat]
        refine sCallX_one (c_l31Event ⟨x1, x2, x3, x4⟩) ?_
        simp -dsimp -implicitDefEqProofs only [go_sem, ↓reduceIte, Nat.reduceEqDiff, Nat.reduceLT, Nat.reduceAdd, Nat.reduceMul, Nat.reduceLeDiff, Nat.le_refl, Int.natCast_zero, Int.toNat_natCast, Int.reduceToNat]
        repeat' (with_reducible refine And.intro ?_ ?_)
        all_goals (first | omega | (refine ⟨?_, ?_⟩ <;> omega) | (exact rfl) | (simp; done) | trace_state)
      · have hlt : i + 1 < ws.length := by have := of_decide_eq_true hi; omega
        have ht : ((i : Int) + 1).toNat = i + 1 := by omega
        have gi : ws[i + 1]? = some (ws.getD (i + 1) []) := by rw [List.getD_eq_getElem?_getD, List.getElem?_eq_getElem hlt]; rfl
        have hwl := hpl (ws.getD (i + 1) []) (List.mem_of_getElem? gi)
        have hcv := c_l01Value (ws.getD (i + 1) []) (by omega)
        have hvn : vN ws i = (if i + 1 = 3 ∧ ws.getD (i + 1) [] = [45, 49] then (-1, true) else valD (ws.getD (i + 1) [])) := rfl
        have hfail : (vN ws i).2 = false → ¬ (ws.length = 5 ∧ (valP 1 (ws.getD 1 [])).2 = true ∧ (valP 2 (ws.getD 2 [])).2 = true ∧ (valP 3 (ws.getD 3 [])).2 = true ∧ (valP 4 (ws.getD 4 [])).2 = true) := by
          rintro q ⟨_, w1, w2, w3, w4⟩
          have : i = 0 ∨ i = 1 ∨ i = 2 ∨ i = 3 := by omega
          rcases this with rfl | rfl | rfl | rfl
          · rw [w1] at q; cases q
          · rw [w2] at q; cases q
          · rw [w3] at q; cases q
          · rw [w4] at q; cases q
        have hgo : (vN ws i).2 = true → ∀ j, j < i + 1 → (vN ws j).2 = true := by
          intro q j hj
          by_cases e : j = i
          · rw [e]; exact q
          · exact i2 j (by omega)
        have hvsu := vNs_succ ws i
        have hvl : (vNs ws i).length = i := by simp [vNs]
        clear i2
        generalize ws.getD (i + 1) [] = w at *
        rcases h3 : (((i : Int) + 1) == 3) with _ | _
        · have n3 : ¬ (i + 1 = 3) := by simp at h3; omega
          rw [if_neg (fun q => n3 q.1)] at hvn
          rw [hvn] at hfail hgo hvsu
          rcases hv : (valD w).2 with _ | _
          · rw [if_neg (hfail hv)]
            simp -dsimp -implicitDefEqProofs only [pick_nil, pick_cons, look_nil, look_cons, dropB_nil, dropB_cons, inD_nil, inD_cons, inE_nil, inE_cons, or_t_l, or_f_l, Nat.reduceBEq, Nat.reduceDiv, Nat.reduceAdd, beq_self_eq_true, Bool.false_eq_true, Bool.or_false, ↓reduceIte, Nat.reduceEqDiff, List.cons_append, List.nil_append]
            simp -dsimp -implicitDefEqProofs only [go_sem, ↓reduceIte, Nat.reduceEqDiff, Nat.reduceLT, Nat.reduceAdd, Nat.reduceMul, Nat.reduceLeDiff, Nat.le_refl, Int.natCast_zero, Int.toNat_natCast, Int.reduceToNat, hi, ht, gi]
            repeat' (with_reducible refine And.intro ?_ ?_)
            all_goals try (first | omega | (refine ⟨?_, ?_⟩ <;> omega))
            refine sCallT_one hcv ?_
            simp -dsimp -implicitDefEqProofs only [go_sem, ↓reduceIte, Nat.reduceEqDiff, Nat.reduceLT, Nat.reduceAdd, Nat.reduceMul, Nat.reduceLeDiff, Nat.le_refl, Int.natCast_zero, Int.toNat_natCast, Int.reduceToNat, h3, hv]
            repeat' (with_reducible refine And.intro ?_ ?_)
            all_goals (first | omega | (refine ⟨?_, ?_⟩ <;> omega) | (exact rfl) | (simp; done) | trace_state)
          · clear hfail
            generalize vNs ws i = ns at *
            simp -dsimp -implicitDefEqProofs only [pick_nil, pick_cons, look_nil, look_cons, dropB_nil, dropB_cons, inD_nil, inD_cons, inE_nil, inE_cons, or_t_l, or_f_l, Nat.reduceBEq, Nat.reduceDiv, Nat.reduceAdd, beq_self_eq_true, Bool.false_eq_true, Bool.or_false, ↓reduceIte, Nat.reduceEqDiff, List.cons_append, List.nil_append]
            simp -dsimp -implicitDefEqProofs only [go_sem, ↓reduceIte, Nat.reduceEqDiff, Nat.reduceLT, Nat.reduceAdd, Nat.reduceMul, Nat.reduceLeDiff, Nat.le_refl, Int.natCast_zero, Int.toNat_natCast, Int.reduceToNat, hi, ht, gi]
            repeat' (with_reducible refine And.intro ?_ ?_)
            all_goals try (first | omega | (refine ⟨?_, ?_⟩ <;> omega))
            refine sCallT_one hcv ?_
            simp -dsimp -implicitDefEqProofs only [go_sem, ↓reduceIte, Nat.reduceEqDiff, Nat.reduceLT, Nat.reduceAdd, Nat.reduceMul, Nat.reduceLeDiff, Nat.le_refl, Int.natCast_zero, Int.toNat_natCast, Int.reduceToNat, h3, hv]
            repeat' (with_reducible refine And.intro ?_ ?_)
            all_goals try (first | omega | (refine ⟨?_, ?_⟩ <;> omega))
            refine ⟨i + 1, ⟨by have := of_decide_eq_true hi; omega, hgo hv⟩, by have := of_decide_eq_true hi; omega, ?_⟩
            rw [hvsu]
            simp -dsimp -implicitDefEqProofs only [go_sem, ↓reduceIte, Nat.reduceEqDiff, Nat.reduceLT, Nat.reduceAdd, Nat.reduceMul, Nat.reduceLeDiff, Nat.le_refl, Int.natCast_zero, Int.toNat_natCast, Int.reduceToNat]
            repeat' (with_reducible refine And.intro ?_ ?_)
            all_goals first | omega | (simp; done) | (simp; omega) | (rw [List.take_of_length_le (by simp; omega)]; simp; done) | trace_state
        · have y3 : i + 1 = 3 := by have := beq_iff_eq.1 h3; omega
          have hm := eq_m1 w
          rcases hm1 : decide (w = [45, 49]) with _ | _
          · have nm : ¬ (w = [45, 49]) := by simpa using hm1
            rw [if_neg (fun q => nm q.2)] at hvn
            rw [hvn] at hfail hgo hvsu
            rcases hv : (valD w).2 with _ | _
            · rw [if_neg (hfail hv)]
              simp -dsimp -implicitDefEqProofs only [pick_nil, pick_cons, look_nil, look_cons, dropB_nil, dropB_cons, inD_nil, inD_cons, inE_nil, inE_cons, or_t_l, or_f_l, Nat.reduceBEq, Nat.reduceDiv, Nat.reduceAdd, beq_self_eq_true, Bool.false_eq_true, Bool.or_false, ↓reduceIte, Nat.reduceEqDiff, List.cons_append, List.nil_append]
              simp -dsimp -implicitDefEqProofs only [go_sem, ↓reduceIte, Nat.reduceEqDiff, Nat.reduceLT, Nat.reduceAdd, Nat.reduceMul, Nat.reduceLeDiff, Nat.le_refl, Int.natCast_zero, Int.toNat_natCast, Int.reduceToNat, hi, ht, gi]
              repeat' (with_reducible refine And.intro ?_ ?_)
              all_goals try (first | omega | (refine ⟨?_, ?_⟩ <;> omega))
              refine sCallT_one hcv ?_
              simp -dsimp -implicitDefEqProofs only [go_sem, ↓reduceIte, Nat.reduceEqDiff, Nat.reduceLT, Nat.reduceAdd, Nat.reduceMul, Nat.reduceLeDiff, Nat.le_refl, Int.natCast_zero, Int.toNat_natCast, Int.reduceToNat, h3, hv, ht, gi]
              repeat' (with_reducible refine And.intro ?_ ?_)
              all_goals try (first | omega | (refine ⟨?_, ?_⟩ <;> omega))
              simp -dsimp -implicitDefEqProofs only [go_sem, ↓reduceIte, Nat.reduceEqDiff, Nat.reduceLT, Nat.reduceAdd, Nat.reduceMul, Nat.reduceLeDiff, Nat.le_refl, Int.natCast_zero, Int.toNat_natCast, Int.reduceToNat, hm1, hv]
              repeat' (with_reducible refine And.intro ?_ ?_)
              all_goals (first | omega | (refine ⟨?_, ?_⟩ <;> omega) | (exact rfl) | (simp; done) | trace_state)
            · clear hfail
              generalize vNs ws i = ns at *
              simp -dsimp -implicitDefEqProofs only [pick_nil, pick_cons, look_nil, look_cons, dropB_nil, dropB_cons, inD_nil, inD_cons, inE_nil, inE_cons, or_t_l, or_f_l, Nat.reduceBEq, Nat.reduceDiv, Nat.reduceAdd, beq_self_eq_true, Bool.false_eq_true, Bool.or_false, ↓reduceIte, Nat.reduceEqDiff, List.cons_append, List.nil_append]
              simp -dsimp -implicitDefEqProofs only [go_sem, ↓reduceIte, Nat.reduceEqDiff, Nat.reduceLT, Nat.reduceAdd, Nat.reduceMul, Nat.reduceLeDiff, Nat.le_refl, Int.natCast_zero, Int.toNat_natCast, Int.reduceToNat, hi, ht, gi]
              repeat' (with_reducible refine And.intro ?_ ?_)
              all_goals try (first | omega | (refine ⟨?_, ?_⟩ <;> omega))
              refine sCallT_one hcv ?_
              simp -dsimp -implicitDefEqProofs only [go_sem, ↓reduceIte, Nat.reduceEqDiff, Nat.reduceLT, Nat.reduceAdd, Nat.reduceMul, Nat.reduceLeDiff, Nat.le_refl, Int.natCast_zero, Int.toNat_natCast, Int.reduceToNat, h3, hv, ht, gi]
              repeat' (with_reducible refine And.intro ?_ ?_)
              all_goals try (first | omega | (refine ⟨?_, ?_⟩ <;> omega))
              simp -dsimp -implicitDefEqProofs only [go_sem, ↓reduceIte, Nat.reduceEqDiff, Nat.reduceLT, Nat.reduceAdd, Nat.reduceMul, Nat.reduceLeDiff, Nat.le_refl, Int.natCast_zero, Int.toNat_natCast, Int.reduceToNat, hm1, hv]
              repeat' (with_reducible refine And.intro ?_ ?_)
              all_goals try (first | omega | (refine ⟨?_, ?_⟩ <;> omega))
              refine ⟨i + 1, ⟨by omega, hgo hv⟩, by omega, ?_⟩
              rw [hvsu]
              simp -dsimp -implicitDefEqProofs only [go_sem, ↓reduceIte, Nat.reduceEqDiff, Nat.reduceLT, Nat.reduceAdd, Nat.reduceMul, Nat.reduceLeDiff, Nat.le_refl, Int.natCast_zero, Int.toNat_natCast, Int.reduceToNat]
              repeat' (with_reducible refine And.intro ?_ ?_)
              all_goals first | omega | (simp; done) | (simp; omega) | (rw [List.take_of_length_le (by simp; omega)]; simp; done) | trace_state
          · rw [if_pos ⟨y3, hm.1 hm1⟩] at hvn
            rw [hvn] at hfail hgo hvsu
            clear hfail
            generalize vNs ws i = ns at *
            simp -dsimp -implicitDefEqProofs only [pick_nil, pick_cons, look_nil, look_cons, dropB_nil, dropB_cons, inD_nil, inD_cons, inE_nil, inE_cons, or_t_l, or_f_l, Nat.reduceBEq, Nat.reduceDiv, Nat.reduceAdd, beq_self_eq_true, Bool.false_eq_true, Bool.or_false, ↓reduceIte, Nat.reduceEqDiff, List.cons_append, List.nil_append]
            simp -dsimp -implicitDefEqProofs only [go_sem, ↓reduceIte, Nat.reduceEqDiff, Nat.reduceLT, Nat.reduceAdd, Nat.reduceMul, Nat.reduceLeDiff, Nat.le_refl, Int.natCast_zero, Int.toNat_natCast, Int.reduceToNat, hi, ht, gi]
            repeat' (with_reducible refine And.intro ?_ ?_)
            all_goals try (first | omega | (refine ⟨?_, ?_⟩ <;> omega))
            refine sCallT_one hcv ?_
            simp -dsimp -implicitDefEqProofs only [go_sem, ↓reduceIte, Nat.reduceEqDiff, Nat.reduceLT, Nat.reduceAdd, Nat.reduceMul, Nat.reduceLeDiff, Nat.le_refl, Int.natCast_zero, Int.toNat_natCast, Int.reduceToNat, h3, ht, gi]
            repeat' (with_reducible refine And.intro ?_ ?_)
            all_goals try (first | omega | (refine ⟨?_, ?_⟩ <;> omega))
            simp -dsimp -implicitDefEqProofs only [go_sem, ↓reduceIte, Nat.reduceEqDiff, Nat.reduceLT, Nat.reduceAdd, Nat.reduceMul, Nat.reduceLeDiff, Nat.le_refl, Int.natCast_zero, Int.toNat_natCast, Int.reduceToNat, hm1]
            repeat' (with_reducible refine And.intro ?_ ?_)
            all_goals try (first | omega | (refine ⟨?_, ?_⟩ <;> omega))
            refine ⟨i + 1, ⟨by omega, hgo rfl⟩, by omega, ?_⟩
            rw [hvsu]
            simp -dsimp -implicitDefEqProofs only [go_sem, ↓reduceIte, Nat.reduceEqDiff, Nat.reduceLT, Nat.reduceAdd, Nat.reduceMul, Nat.reduceLeDiff, Nat.le_refl, Int.natCast_zero, Int.toNat_natCast, Int.reduceToNat]
            repeat' (with_reducible refine And.intro ?_ ?_)
            all_goals first | omega | (simp; done) | (simp; omega) | (rw [List.take_of_length_le (by simp; omega)]; simp; done) | trace_state
  · have e5 : ¬ ws.length = 5 := fun e => by rw [e] at h5; simp at h5
    rw [if_neg (fun q => e5 q.1)]
    simp -dsimp -implicitDefEqProofs only [go_sem, ↓reduceIte, Nat.reduceEqDiff, Nat.reduceLT, Nat.reduceAdd, Nat.reduceMul, Nat.reduceLeDiff, Nat.le_refl, Int.natCast_zero, Int.toNat_natCast, Int.reduceToNat, h5]
    repeat' (with_reducible refine And.intro ?_ ?_)
    all_goals (first | omega | (refine ⟨?_, ?_⟩ <;> omega) | (exact rfl) | (simp; done) | trace_state)
end Go.Vc
/-
  Contracts: journals, as the reference recovers them.
-/
set_option linter.unusedVariables false
set_option linter.unusedSimpArgs false
set_option linter.unnecessarySimpa false
namespace Go.Vc
open Go.Proofs Go.Lib
set_option maxRecDepth 100000
theorem valD_in (s : List UInt8) : 0 ≤ (valD s).1 ∧ (valD s).1 ≤ 10000000000000 := by
  unfold valD
  split
  · simp
  · rename_i h
    split
    · rename_i h2
      have h3 := dval_lt s 0 (fun c hc => by have := List.all_eq_true.1 h2 c hc; simpa using this)
      have h4 := pow13 (n := s.length) (by omega)
      rw [Nat.zero_add, Nat.one_mul] at h3
      dsimp only
      omega
    · simp
theorem lineE_D (l : List UInt8) : EvD (lineE l).1 := by
  unfold lineE
  have hv : ∀ i w, -1 ≤ (valP i w).1 ∧ (valP i w).1 ≤ 10000000000000 ∧ (i ≠ 3 → 0 ≤ (valP i w).1) := by
    intro i w
    have := valD_in w
    unfold valP
    split
    · rename_i h; exact ⟨by simp, by simp, fun q => absurd h.1 q⟩
    · omega
  split
  · have h1 := hv 1 ((spl 44 (headOf l)).getD 1 [])
    have h2 := hv 2 ((spl 44 (headOf l)).getD 2 [])
    have h3 := hv 3 ((spl 44 (headOf l)).getD 3 [])
    have h4 := hv 4 ((spl 44 (headOf l)).getD 4 [])
    exact ⟨⟨h1.2.2 (by decide), by have := h1.2.1; dsimp only; omega⟩, ⟨h2.2.2 (by decide), by have := h2.2.1; dsimp only; omega⟩, ⟨h3.1, by have := h3.2.1; dsimp only; omega⟩, ⟨h4.2.2 (by decide), by have := h4.2.1; dsimp only; omega⟩⟩
  · unfold EvD; simp
theorem pre_iff {a r l : List UInt8} : l <+: r ↔ (a ++ l).length ≤ (a ++ r).length ∧ (a ++ r).take (a ++ l).length = a ++ l := by
  constructor
  · rintro ⟨q, rfl⟩
    refine ⟨by simp, ?_⟩
    rw [← List.append_assoc, List.take_left]
  · rintro ⟨_, h⟩
    have h2 : a ++ l <+: a ++ r := by rw [← h]; exact List.take_prefix _ _
    exact (List.prefix_append_right_inj a).1 h2
set_option maxHeartbeats 4000000 in
theorem c_l31Recover (t : List UInt8) (h : t.length ≤ 1048575) : Fn Tryz.prog 54 [eS t] true (· = .tup [eEvs (readJ t).1, eI ((t.length - (readJ t).2.1.length : Nat) : Int)]) := by
  refine Fn.of_vcN 64 [.tmp 2, .tmp 3] Tryz.func54 rfl rfl rfl rfl rfl (of_decide_eq_true rfl) ?_
  obtain ⟨a, ha⟩ : ∃ a, readJ t = a := ⟨_, rfl⟩
  rw [ha]
  unfold readJ at ha
  obtain ⟨lines, hls⟩ : ∃ ls, spl 10 t = ls := ⟨_, rfl⟩
  have hcs := c_l01Split t 10 (by omega)
  have hpl := spl_part_len 10 t
  have hslen := spl_length_le 10 t
  rw [hls] at hcs hpl hslen
  simp -dsimp -implicitDefEqProofs only [go_sem, ↓reduceIte, Nat.reduceEqDiff, Nat.reduceLT, Nat.reduceAdd, Nat.reduceMul, Nat.reduceLeDiff, Nat.le_refl, Int.natCast_zero, Int.toNat_natCast, Int.reduceToNat]
  refine sCallT_one hcs ?_
  simp -dsimp -implicitDefEqProofs only [go_sem, ↓reduceIte, Nat.reduceEqDiff, Nat.reduceLT, Nat.reduceAdd, Nat.reduceMul, Nat.reduceLeDiff, Nat.le_refl, Int.natCast_zero, Int.toNat_natCast, Int.reduceToNat]
  refine Later.lpR [0, 4] [7, 17, 21, 31, 34, 36, 38, 39, 41, 46, 48, 54] [13, 34, 700] (fun x : JSt => JInv t x.es x.r x.c ∧ x.es.length ≤ 60 ∧ recJ (60 - x.es.length) x.es x.r x.c = a)
    (fun x => [(5, .ref 700 0 0 x.es.length), (6, eI x.es.length)]) (fun x => [(700, .row 0 ⟨4, true⟩ true (x.es.map eEv))]) (fun x => 60 - x.es.length) ⟨[], t, 1⟩ ⟨JInv.start t, by simp, ha⟩ (.one 13 700 (by decide) (by decide) ?_) rfl (fun x hI => ?_)
  · simp -dsimp -implicitDefEqProofs only [go_sem, ↓reduceIte, Nat.reduceEqDiff, Nat.reduceLT, Nat.reduceAdd, Nat.reduceMul, Nat.reduceLeDiff, Nat.le_refl, Int.natCast_zero, Int.toNat_natCast, Int.reduceToNat]
  · obtain ⟨es, r, c⟩ := x
    obtain ⟨i1, i2, i3⟩ := hI
    dsimp only at i1 i2 i3 ⊢
    have hlen : t.length = (jT 1 0 es).length + r.length := by rw [i1.txt, List.length_append]
    have hc := jC_in es 1 0 (by omega)
    rw [← i1.ch] at hc
    have hesD : ∀ e ∈ es, EvD e := fun e he => isJ_D (i1.ok e he)
    have hct := c_l31Text es (by omega) hesD
    obtain ⟨ls0, k1, k2⟩ := spl_jT es 1 0 r
    rw [← i1.txt, hls] at k2
    have hll : lines.length = es.length + (spl 10 r).length := by rw [k2, List.length_append, k1]
    have hnone : nextE r es.length c = none → a = (es, r, c) := fun q => by
      cases hf : 60 - es.length with
      | zero => rw [hf] at i3; exact i3.symm
      | succ f => rw [hf, recJ, q] at i3; exact i3.symm
    have hL : (jT 1 0 es).length = t.length - r.length := by omega
    rcases h10 : decide ((es.length : Int) + 1 < lines.length) with _ | _
    · have hno : (10 : UInt8) ∉ r := fun q => by
        have := spl_len_yes q
        have := of_decide_eq_false h10
        omega
      have ha2 := hnone (next_none _ _ hno)
      subst ha2
      rw [← hL]
      simp -dsimp -implicitDefEqProofs only [pick_nil, pick_cons, look_nil, look_cons, dropB_nil, dropB_cons, inD_nil, inD_cons, inE_nil, inE_cons, or_t_l, or_f_l, Nat.reduceBEq, Nat.reduceDiv, Nat.reduceAdd, beq_self_eq_true, Bool.false_eq_true, Bool.or_false, ↓reduceIte, Nat.reduceEqDiff, List.cons_append, List.nil_append]
      simp -dsimp -implicitDefEqProofs only [go_sem, ↓reduceIte, Nat.reduceEqDiff, Nat.reduceLT, Nat.reduceAdd, Nat.reduceMul, Nat.reduceLeDiff, Nat.le_refl, Int.natCast_zero, Int.toNat_natCast, Int.reduceToNat, h10]
      repeat' (with_reducible refine And.intro ?_ ?_)
      all_goals try (first | omega | (refine ⟨?_, ?_⟩ <;> omega))
      refine sCallT_one hct ?_
      simp -dsimp -implicitDefEqProofs only [go_sem, ↓reduceIte, Nat.reduceEqDiff, Nat.reduceLT, Nat.reduceAdd, Nat.reduceMul, Nat.reduceLeDiff, Nat.le_refl, Int.natCast_zero, Int.toNat_natCast, Int.reduceToNat]
      repeat' (with_reducible refine And.intro ?_ ?_)
      all_goals (first | omega | (refine ⟨?_, ?_⟩ <;> omega) | (exact rfl) | (simp; done) | (rw [hL]; done) | trace_state)
    · rcases h60 : decide ((es.length : Int) < 60) with _ | _
      · have hl60 := of_decide_eq_false h60
        have e60 : es.length = 60 := by omega
        have i4 := i3
        rw [e60] at i4
        have i4 : (es, r, c) = a := i4
        subst i4
        rw [← hL]
        simp -dsimp -implicitDefEqProofs only [pick_nil, pick_cons, look_nil, look_cons, dropB_nil, dropB_cons, inD_nil, inD_cons, inE_nil, inE_cons, or_t_l, or_f_l, Nat.reduceBEq, Nat.reduceDiv, Nat.reduceAdd, beq_self_eq_true, Bool.false_eq_true, Bool.or_false, ↓reduceIte, Nat.reduceEqDiff, List.cons_append, List.nil_append]
        simp -dsimp -implicitDefEqProofs only [go_sem, ↓reduceIte, Nat.reduceEqDiff, Nat.reduceLT, Nat.reduceAdd, Nat.reduceMul, Nat.reduceLeDiff, Nat.le_refl, Int.natCast_zero, Int.toNat_natCast, Int.reduceToNat, h10, h60]
        repeat' (with_reducible refine And.intro ?_ ?_)
        all_goals try (first | omega | (refine ⟨?_, ?_⟩ <;> omega))
        refine sCallT_one hct ?_
        simp -dsimp -implicitDefEqProofs only [go_sem, ↓reduceIte, Nat.reduceEqDiff, Nat.reduceLT, Nat.reduceAdd, Nat.reduceMul, Nat.reduceLeDiff, Nat.le_refl, Int.natCast_zero, Int.toNat_natCast, Int.reduceToNat]
        repeat' (with_reducible refine And.intro ?_ ?_)
        all_goals (first | omega | (refine ⟨?_, ?_⟩ <;> omega) | (exact rfl) | (simp; done) | (rw [hL]; done) | trace_state)
      · have hl60 := of_decide_eq_true h60
        obtain ⟨f, hf⟩ : ∃ f, 60 - es.length = f + 1 := ⟨60 - es.length - 1, by omega⟩
        rw [hf, recJ] at i3
        have gl : lines[es.length]? = some (lineOf r) := by
          rw [k2, List.getElem?_append_right (by omega), k1, Nat.sub_self]; exact headD_get
        have hwl := hpl _ (List.mem_of_getElem? gl)
        have hllt : es.length < lines.length := (List.getElem?_eq_some_iff.1 gl).1
        have hcl := c_l31Line (lineOf r) (by omega)
        have hnx := lineE_next (r := r) (k := es.length) (c := c) (by omega)
        have hD := lineE_D (lineOf r)
        have hstep := fun e => i1.step (e := e) (by omega)
        have hct2 := c_l31Text (es ++ [(lineE (lineOf r)).1]) (by simp; omega) (by
          intro e he
          rcases List.mem_append.1 he with he | he
          · exact hesD e he
          · rw [List.mem_singleton] at he; rw [he]; exact hD)
        have hTs := jT_snoc es 1 0 (lineE (lineOf r)).1
        rw [Nat.zero_add, ← i1.ch] at hTs
        have hjl := jLine_len (k := es.length) hc (by omega) hD.e64
        have hpre := pre_iff (a := jT 1 0 es) (r := r) (l := jLine c es.length (lineE (lineOf r)).1)
        rw [← i1.txt, ← hTs] at hpre
        generalize lineOf r = line at *
        generalize lineE line = q at *
        obtain ⟨e, ok⟩ := q
        dsimp only at hnx hD hct2 hTs hjl hpre hcl
        have hTl : (jT 1 0 (es ++ [e])).length = (jT 1 0 es).length + (jLine c es.length e).length := by rw [hTs, List.length_append]
        simp -dsimp -implicitDefEqProofs only [pick_nil, pick_cons, look_nil, look_cons, dropB_nil, dropB_cons, inD_nil, inD_cons, inE_nil, inE_cons, or_t_l, or_f_l, Nat.reduceBEq, Nat.reduceDiv, Nat.reduceAdd, beq_self_eq_true, Bool.false_eq_true, Bool.or_false, ↓reduceIte, Nat.reduceEqDiff, List.cons_append, List.nil_append]
        simp -dsimp -implicitDefEqProofs only [go_sem, ↓reduceIte, Nat.reduceEqDiff, Nat.reduceLT, Nat.reduceAdd, Nat.reduceMul, Nat.reduceLeDiff, Nat.le_refl, Int.natCast_zero, Int.toNat_natCast, Int.reduceToNat, h10, h60]
        repeat' (with_reducible refine And.intro ?_ ?_)
        all_goals try (first | omega | (refine ⟨?_, ?_⟩ <;> omega))
        simp -dsimp -implicitDefEqProofs only [go_sem, ↓reduceIte, Nat.reduceEqDiff, Nat.reduceLT, Nat.reduceAdd, Nat.reduceMul, Nat.reduceLeDiff, Nat.le_refl, Int.natCast_zero, Int.toNat_natCast, Int.reduceToNat, gl]
        refine sCallT_one hcl ?_
        simp -dsimp -implicitDefEqProofs only [go_sem, ↓reduceIte, Nat.reduceEqDiff, Nat.reduceLT, Nat.reduceAdd, Nat.reduceMul, Nat.reduceLeDiff, Nat.le_refl, Int.natCast_zero, Int.toNat_natCast, Int.reduceToNat]
        refine Later.draw mixed rfl ?_
        simp -dsimp -implicitDefEqProofs only [go_sem, ↓reduceIte, Nat.reduceEqDiff, Nat.reduceLT, Nat.reduceAdd, Nat.reduceMul, Nat.reduceLeDiff, Nat.le_refl, Int.natCast_zero, Int.toNat_natCast, Int.reduceToNat]
        repeat' (with_reducible refine And.intro ?_ ?_)
        all_goals try (first | omega | (refine ⟨?_, ?_⟩ <;> omega) | (exact rfl) | (simp; done))
        have htk : List.take (es.length + 1) (List.map eEv es ++ [AV.agg [eI e.kind, eI e.tag, eI e.person, eI e.who]]) = List.map eEv (es ++ [e]) := by
          rw [List.take_of_length_le (by simp)]; simp
        have hmm : List.map eEv es ++ [AV.agg [eI e.kind, eI e.tag, eI e.person, eI e.who]] = List.map eEv (es ++ [e]) := by simp
        have hell : es.length + 1 = (es ++ [e]).length := by simp
        have hstop : nextE r es.length c = none → a = (es, r, c) := hnone
        clear hnone hcl hcs gl
        generalize jT 1 0 (es ++ [e]) = T2 at *
        simp only [htk]
        refine sCallT_one hct2 ?_
        rcases q0 : (!ok) with _ | _
        · have hok : ok = true := by simpa using q0
          rcases q1 : decide ((T2.length : Int) > t.length) with _ | _
          · rcases q2 : (!decide (t.take T2.length = T2)) with _ | _
            · have w1 := of_decide_eq_false q1
              have w2 : t.take T2.length = T2 := by simpa using q2
              have hp := hpre.2 ⟨by omega, w2⟩
              rw [if_pos ⟨hok, hp⟩] at hnx
              have hst := hstep e hnx
              rw [hnx] at i3
              simp -dsimp -implicitDefEqProofs only [go_sem, ↓reduceIte, Nat.reduceEqDiff, Nat.reduceLT, Nat.reduceAdd, Nat.reduceMul, Nat.reduceLeDiff, Nat.le_refl, Int.natCast_zero, Int.toNat_natCast, Int.reduceToNat, q0, q1, q2]
              repeat' (with_reducible refine And.intro ?_ ?_)
              all_goals try (first | omega | (refine ⟨?_, ?_⟩ <;> omega) | (refine ⟨?_, ?_, ?_⟩ <;> omega))
              all_goals try simp -dsimp -implicitDefEqProofs only [go_sem, ↓reduceIte, Nat.reduceEqDiff, Nat.reduceLT, Nat.reduceAdd, Nat.reduceMul, Nat.reduceLeDiff, Nat.le_refl, Int.natCast_zero, Int.toNat_natCast, Int.reduceToNat, q2]
              repeat' (with_reducible refine And.intro ?_ ?_)
              all_goals try (first | omega | (refine ⟨?_, ?_⟩ <;> omega) | (refine ⟨?_, ?_, ?_⟩ <;> omega))
              refine ⟨⟨es ++ [e], r.drop (jLine c es.length e).length, chainOf c (jHead es.length e)⟩, ⟨hst, by simp; omega, ?_⟩, by simp; omega, .one 34 700 (by decide) (by decide) ?_⟩
              · dsimp only
                rw [show 60 - (es ++ [e]).length = f by simp; omega]
                exact i3
              · dsimp only
                simp -dsimp -implicitDefEqProofs only [go_sem, ↓reduceIte, Nat.reduceEqDiff, Nat.reduceLT, Nat.reduceAdd, Nat.reduceMul, Nat.reduceLeDiff, Nat.le_refl, Int.natCast_zero, Int.toNat_natCast, Int.reduceToNat]
                repeat' (with_reducible refine And.intro ?_ ?_)
                all_goals first | omega | (simp; done) | (exact rfl) | trace_state
            · have w1 := of_decide_eq_false q1
              have w2 : ¬ t.take T2.length = T2 := by simpa using q2
              rw [if_neg (fun w => w2 (hpre.1 w.2).2)] at hnx
              have ha2 := hstop hnx
              subst ha2
              rw [← hL]
              simp -dsimp -implicitDefEqProofs only [go_sem, ↓reduceIte, Nat.reduceEqDiff, Nat.reduceLT, Nat.reduceAdd, Nat.reduceMul, Nat.reduceLeDiff, Nat.le_refl, Int.natCast_zero, Int.toNat_natCast, Int.reduceToNat, q0, q1]
              repeat' (with_reducible refine And.intro ?_ ?_)
              all_goals try (first | omega | (refine ⟨?_, ?_⟩ <;> omega) | (refine ⟨?_, ?_, ?_⟩ <;> omega))
              simp -dsimp -implicitDefEqProofs only [go_sem, ↓reduceIte, Nat.reduceEqDiff, Nat.reduceLT, Nat.reduceAdd, Nat.reduceMul, Nat.reduceLeDiff, Nat.le_refl, Int.natCast_zero, Int.toNat_natCast, Int.reduceToNat, q2]
              refine sCallT_one hct ?_
              simp -dsimp -implicitDefEqProofs only [go_sem, ↓reduceIte, Nat.reduceEqDiff, Nat.reduceLT, Nat.reduceAdd, Nat.reduceMul, Nat.reduceLeDiff, Nat.le_refl, Int.natCast_zero, Int.toNat_natCast, Int.reduceToNat]
              repeat' (with_reducible refine And.intro ?_ ?_)
              all_goals (first | omega | (refine ⟨?_, ?_⟩ <;> omega) | (exact rfl) | (simp; done) | (rw [hL]; done) | trace_state)
          · have w1 := of_decide_eq_true q1
            rw [if_neg (fun w => by have := (hpre.1 w.2).1; omega)] at hnx
            have ha2 := hstop hnx
            subst ha2
            rw [← hL]
            simp -dsimp -implicitDefEqProofs only [go_sem, ↓reduceIte, Nat.reduceEqDiff, Nat.reduceLT, Nat.reduceAdd, Nat.reduceMul, Nat.reduceLeDiff, Nat.le_refl, Int.natCast_zero, Int.toNat_natCast, Int.reduceToNat, q0, q1]
            repeat' (with_reducible refine And.intro ?_ ?_)
            all_goals try (first | omega | (refine ⟨?_, ?_⟩ <;> omega))
            refine sCallT_one hct ?_
            simp -dsimp -implicitDefEqProofs only [go_sem, ↓reduceIte, Nat.reduceEqDiff, Nat.reduceLT, Nat.reduceAdd, Nat.reduceMul, Nat.reduceLeDiff, Nat.le_refl, Int.natCast_zero, Int.toNat_natCast, Int.reduceToNat]
            repeat' (with_reducible refine And.intro ?_ ?_)
            all_goals (first | omega | (refine ⟨?_, ?_⟩ <;> omega) | (exact rfl) | (simp; done) | (rw [hL]; done) | trace_state)
        · have hok : ok = false := by simpa using q0
          rw [if_neg (fun w => by rw [hok] at w; cases w.1)] at hnx
          have ha2 := hstop hnx
          subst ha2
          rw [← hL]
          simp -dsimp -implicitDefEqProofs only [go_sem, ↓reduceIte, Nat.reduceEqDiff, Nat.reduceLT, Nat.reduceAdd, Nat.reduceMul, Nat.reduceLeDiff, Nat.le_refl, Int.natCast_zero, Int.toNat_natCast, Int.reduceToNat, q0]
          repeat' (with_reducible refine And.intro ?_ ?_)
          all_goals try (first | omega | (refine ⟨?_, ?_⟩ <;> omega))
          refine sCallT_one hct ?_
          simp -dsimp -implicitDefEqProofs only [go_sem, ↓reduceIte, Nat.reduceEqDiff, Nat.reduceLT, Nat.reduceAdd, Nat.reduceMul, Nat.reduceLeDiff, Nat.le_refl, Int.natCast_zero, Int.toNat_natCast, Int.reduceToNat]
          repeat' (with_reducible refine And.intro ?_ ?_)
          all_goals (first | omega | (refine ⟨?_, ?_⟩ <;> omega) | (exact rfl) | (simp; done) | (rw [hL]; done) | trace_state)
end Go.Vc
/-
  Contracts: what is told of a journal, by the program and by the reference.
-/
set_option linter.unusedVariables false
set_option linter.unusedSimpArgs false
set_option linter.unnecessarySimpa false
namespace Go.Vc
open Go.Proofs Go.Lib
set_option maxRecDepth 100000
theorem readJ_facts (t : List UInt8) : t.length = (jT 1 0 (readJ t).1).length + (readJ t).2.1.length ∧ (readJ t).2.2 = jC 1 0 (readJ t).1 ∧ (∀ e ∈ (readJ t).1, isJ e = true) ∧ (readJ t).1.length ≤ 60 := by
  obtain ⟨h, h2⟩ := readJ_inv t
  refine ⟨?_, h.ch, h.ok, h2⟩
  conv => lhs; rw [h.txt]
  rw [List.length_append]
def rdJ (t : List UInt8) : List EvM × Int := if t.length > 1000 then ([], 3) else if (readJ t).2.1.length > 0 then ([], 6) else ((readJ t).1, 0)
theorem rdJ_facts (t : List UInt8) : (∀ e ∈ (rdJ t).1, isJ e = true) ∧ (rdJ t).1.length ≤ 60 := by
  have := readJ_facts t
  unfold rdJ
  split
  · simp
  · split
    · simp
    · exact ⟨this.2.2.1, this.2.2.2⟩
theorem c_iReadJournal (t : List UInt8) (h : t.length ≤ 1048576) : Fn Tryz.prog 26 [eS t] true (· = .tup [eEvs (rdJ t).1, eI (rdJ t).2]) := by
  refine Fn.of_vcN 21 [.tmp 2, .tmp 3] Tryz.func26 rfl rfl rfl rfl rfl (of_decide_eq_true rfl) ?_
  unfold rdJ
  simp -dsimp -implicitDefEqProofs only [go_sem, ↓reduceIte, Nat.reduceEqDiff, Nat.reduceLT, Nat.reduceAdd, Nat.reduceMul, Nat.reduceLeDiff, Nat.le_refl, Int.natCast_zero, Int.toNat_natCast, Int.reduceToNat]
  rcases hk : decide ((t.length : Int) > 1000) with _ | _
  · have hk2 := of_decide_eq_false hk
    rw [if_neg (by omega)]
    have hf := readJ_facts t
    have hc := c_readJournal t (by omega)
    generalize readJ t = a at *
    simp -dsimp -implicitDefEqProofs only [go_sem, ↓reduceIte, Nat.reduceEqDiff, Nat.reduceLT, Nat.reduceAdd, Nat.reduceMul, Nat.reduceLeDiff, Nat.le_refl, Int.natCast_zero, Int.toNat_natCast, Int.reduceToNat, hk]
    refine sCallT_one hc ?_
    rcases hr : decide (((t.length - a.2.1.length : Nat) : Int) < t.length) with _ | _
    · have := of_decide_eq_false hr
      rw [if_neg (by omega)]
      simp -dsimp -implicitDefEqProofs only [go_sem, ↓reduceIte, Nat.reduceEqDiff, Nat.reduceLT, Nat.reduceAdd, Nat.reduceMul, Nat.reduceLeDiff, Nat.le_refl, Int.natCast_zero, Int.toNat_natCast, Int.reduceToNat, hr]
      repeat' (with_reducible refine And.intro ?_ ?_)
      all_goals (first | omega | (refine ⟨?_, ?_⟩ <;> omega) | (exact rfl) | (simp; done) | trace_state)
    · have := of_decide_eq_true hr
      rw [if_pos (by omega)]
      simp -dsimp -implicitDefEqProofs only [go_sem, ↓reduceIte, Nat.reduceEqDiff, Nat.reduceLT, Nat.reduceAdd, Nat.reduceMul, Nat.reduceLeDiff, Nat.le_refl, Int.natCast_zero, Int.toNat_natCast, Int.reduceToNat, hr]
      repeat' (with_reducible refine And.intro ?_ ?_)
      all_goals (first | omega | (refine ⟨?_, ?_⟩ <;> omega) | (exact rfl) | (simp; done) | trace_state)
  · have hk2 := of_decide_eq_true hk
    rw [if_pos (by omega)]
    simp -dsimp -implicitDefEqProofs only [go_sem, ↓reduceIte, Nat.reduceEqDiff, Nat.reduceLT, Nat.reduceAdd, Nat.reduceMul, Nat.reduceLeDiff, Nat.le_refl, Int.natCast_zero, Int.toNat_natCast, Int.reduceToNat, hk]
    repeat' (with_reducible refine And.intro ?_ ?_)
    all_goals (first | omega | (refine ⟨?_, ?_⟩ <;> omega) | (exact rfl) | (simp; done) | trace_state)
theorem c_sReadJournal (t : List UInt8) (h : t.length ≤ 1048576) : Fn Tryz.prog 27 [eS t] true (· = .tup [eEvs (rdJ t).1, eI (rdJ t).2]) := by
  refine Fn.of_vcN 19 [.tmp 2, .tmp 3] Tryz.func27 rfl rfl rfl rfl rfl (of_decide_eq_true rfl) ?_
  unfold rdJ
  simp -dsimp -implicitDefEqProofs only [go_sem, ↓reduceIte, Nat.reduceEqDiff, Nat.reduceLT, Nat.reduceAdd, Nat.reduceMul, Nat.reduceLeDiff, Nat.le_refl, Int.natCast_zero, Int.toNat_natCast, Int.reduceToNat]
  rcases hk : decide ((t.length : Int) > 1000) with _ | _
  · have hk2 := of_decide_eq_false hk
    rw [if_neg (by omega)]
    have hf := readJ_facts t
    have hc := c_l31Recover t (by omega)
    generalize readJ t = a at *
    simp -dsimp -implicitDefEqProofs only [go_sem, ↓reduceIte, Nat.reduceEqDiff, Nat.reduceLT, Nat.reduceAdd, Nat.reduceMul, Nat.reduceLeDiff, Nat.le_refl, Int.natCast_zero, Int.toNat_natCast, Int.reduceToNat, hk]
    refine sCallT_one hc ?_
    rcases hr : (((t.length - a.2.1.length : Nat) : Int) != t.length) with _ | _
    · have hr2 : ((t.length - a.2.1.length : Nat) : Int) = t.length := by simpa using hr
      rw [if_neg (by omega)]
      simp -dsimp -implicitDefEqProofs only [go_sem, ↓reduceIte, Nat.reduceEqDiff, Nat.reduceLT, Nat.reduceAdd, Nat.reduceMul, Nat.reduceLeDiff, Nat.le_refl, Int.natCast_zero, Int.toNat_natCast, Int.reduceToNat, hr]
      repeat' (with_reducible refine And.intro ?_ ?_)
      all_goals (first | omega | (refine ⟨?_, ?_⟩ <;> omega) | (exact rfl) | (simp; done) | trace_state)
    · have hr2 : ¬ ((t.length - a.2.1.length : Nat) : Int) = t.length := by simpa using hr
      rw [if_pos (by omega)]
      simp -dsimp -implicitDefEqProofs only [go_sem, ↓reduceIte, Nat.reduceEqDiff, Nat.reduceLT, Nat.reduceAdd, Nat.reduceMul, Nat.reduceLeDiff, Nat.le_refl, Int.natCast_zero, Int.toNat_natCast, Int.reduceToNat, hr]
      repeat' (with_reducible refine And.intro ?_ ?_)
      all_goals (first | omega | (refine ⟨?_, ?_⟩ <;> omega) | (exact rfl) | (simp; done) | trace_state)
  · have hk2 := of_decide_eq_true hk
    rw [if_pos (by omega)]
    simp -dsimp -implicitDefEqProofs only [go_sem, ↓reduceIte, Nat.reduceEqDiff, Nat.reduceLT, Nat.reduceAdd, Nat.reduceMul, Nat.reduceLeDiff, Nat.le_refl, Int.natCast_zero, Int.toNat_natCast, Int.reduceToNat, hk]
    repeat' (with_reducible refine And.intro ?_ ?_)
    all_goals (first | omega | (refine ⟨?_, ?_⟩ <;> omega) | (exact rfl) | (simp; done) | trace_state)
def recov (t : List UInt8) : List EvM × Int × Int := if t.length > 1000 then ([], 0, 3) else ((readJ t).1, ((t.length - (readJ t).2.1.length : Nat) : Int), 0)
def appE (t : List UInt8) (e : EvM) : List UInt8 × Int := if (rdJ t).2 = 0 then jText ((rdJ t).1 ++ [e]) else ([], (rdJ t).2)
theorem c_iAppendEvent (t : List UInt8) (e : EvM) (h : t.length ≤ 1048576) : Fn Tryz.prog 14 [eS t, eEv e] true (· = .tup [eS (appE t e).1, eI (appE t e).2]) := by
  refine Fn.of_vcN 23 [.tmp 4, .tmp 5] Tryz.func14 rfl rfl rfl rfl rfl (of_decide_eq_true rfl) ?_
  unfold appE
  have hf := rdJ_facts t
  have hc := c_iReadJournal t h
  generalize rdJ t = a at *
  obtain ⟨es, code⟩ := a
  dsimp only at hf hc ⊢
  simp -dsimp -implicitDefEqProofs only [go_sem, ↓reduceIte, Nat.reduceEqDiff, Nat.reduceLT, Nat.reduceAdd, Nat.reduceMul, Nat.reduceLeDiff, Nat.le_refl, Int.natCast_zero, Int.toNat_natCast, Int.reduceToNat]
  refine sCallT_one hc ?_
  rcases hk : (code != 0) with _ | _
  · have h0 : code = 0 := by simpa using hk
    rw [if_pos h0]
    have htk : List.take (es.length + 1) (List.map eEv es ++ [AV.agg [eI e.kind, eI e.tag, eI e.person, eI e.who]]) = List.map eEv (es ++ [e]) := by
      rw [List.take_of_length_le (by simp)]; simp
    have hj := c_iJournalText (es ++ [e]) (by simp; omega)
    generalize jText (es ++ [e]) = q at *
    simp -dsimp -implicitDefEqProofs only [go_sem, ↓reduceIte, Nat.reduceEqDiff, Nat.reduceLT, Nat.reduceAdd, Nat.reduceMul, Nat.reduceLeDiff, Nat.le_refl, Int.natCast_zero, Int.toNat_natCast, Int.reduceToNat, hk]
    repeat' (with_reducible refine And.intro ?_ ?_)
    all_goals try (first | omega | (refine ⟨?_, ?_⟩ <;> omega) | (simp; done))
    simp only [htk]
    refine sCallT_one hj ?_
    simp -dsimp -implicitDefEqProofs only [go_sem, ↓reduceIte, Nat.reduceEqDiff, Nat.reduceLT, Nat.reduceAdd, Nat.reduceMul, Nat.reduceLeDiff, Nat.le_refl, Int.natCast_zero, Int.toNat_natCast, Int.reduceToNat]
    repeat' (with_reducible refine And.intro ?_ ?_)
    all_goals (first | omega | (refine ⟨?_, ?_⟩ <;> omega) | (exact rfl) | (simp; done) | trace_state)
  · have h0 : ¬ code = 0 := by simpa using hk
    rw [if_neg h0]
    simp -dsimp -implicitDefEqProofs only [go_sem, ↓reduceIte, Nat.reduceEqDiff, Nat.reduceLT, Nat.reduceAdd, Nat.reduceMul, Nat.reduceLeDiff, Nat.le_refl, Int.natCast_zero, Int.toNat_natCast, Int.reduceToNat, hk]
    repeat' (with_reducible refine And.intro ?_ ?_)
    all_goals (first | omega | (refine ⟨?_, ?_⟩ <;> omega) | (exact rfl) | (simp; done) | trace_state)
theorem jText_snoc {es : List EvM} {e : EvM} (h : ∀ x ∈ es, isJ x = true) : jText (es ++ [e]) = if isJ e = true then jWrite (es ++ [e]) else ([], 2) := by
  unfold jText jWrite
  have hall : (es ++ [e]).all isJ = isJ e := by
    rw [List.all_append, List.all_eq_true.2 h]; simp
  rw [hall]
theorem c_sAppendEvent (t : List UInt8) (e : EvM) (h : t.length ≤ 1048576) : Fn Tryz.prog 15 [eS t, eEv e] true (· = .tup [eS (appE t e).1, eI (appE t e).2]) := by
  refine Fn.of_vcN 32 [.tmp 4, .tmp 5] Tryz.func15 rfl rfl rfl rfl rfl (of_decide_eq_true rfl) ?_
  unfold appE
  have hf := rdJ_facts t
  have hc := c_sReadJournal t h
  generalize rdJ t = a at *
  obtain ⟨es, code⟩ := a
  dsimp only at hf hc ⊢
  rw [jText_snoc hf.1]
  simp -dsimp -implicitDefEqProofs only [go_sem, ↓reduceIte, Nat.reduceEqDiff, Nat.reduceLT, Nat.reduceAdd, Nat.reduceMul, Nat.reduceLeDiff, Nat.le_refl, Int.natCast_zero, Int.toNat_natCast, Int.reduceToNat]
  refine sCallT_one hc ?_
  rcases hk : (code == 0) with _ | _
  · have h0 : ¬ code = 0 := by simpa using hk
    have hk2 : (code != 0) = true := by simpa using hk
    rw [if_neg h0]
    simp -dsimp -implicitDefEqProofs only [go_sem, ↓reduceIte, Nat.reduceEqDiff, Nat.reduceLT, Nat.reduceAdd, Nat.reduceMul, Nat.reduceLeDiff, Nat.le_refl, Int.natCast_zero, Int.toNat_natCast, Int.reduceToNat, hk, hk2]
    repeat' (with_reducible refine And.intro ?_ ?_)
    all_goals (first | omega | (refine ⟨?_, ?_⟩ <;> omega) | (exact rfl) | (simp; done) | trace_state)
  · have h0 : code = 0 := by simpa using hk
    subst h0
    rw [if_pos rfl]
    have z1 : ((0 : Int) == 0) = true := rfl
    have z2 : ((0 : Int) != 0) = false := rfl
    have z3 : ((2 : Int) != 0) = true := rfl
    have hce := c_l31Event e
    rcases hj : isJ e with _ | _
    · rw [if_neg (by decide)]
      simp -dsimp -implicitDefEqProofs only [go_sem, ↓reduceIte, Nat.reduceEqDiff, Nat.reduceLT, Nat.reduceAdd, Nat.reduceMul, Nat.reduceLeDiff, Nat.le_refl, Int.natCast_zero, Int.toNat_natCast, Int.reduceToNat, z1]
      refine sCallT_one hce ?_
      simp -dsimp -implicitDefEqProofs only [go_sem, ↓reduceIte, Nat.reduceEqDiff, Nat.reduceLT, Nat.reduceAdd, Nat.reduceMul, Nat.reduceLeDiff, Nat.le_refl, Int.natCast_zero, Int.toNat_natCast, Int.reduceToNat, hj, z3]
      repeat' (with_reducible refine And.intro ?_ ?_)
      all_goals (first | omega | (refine ⟨?_, ?_⟩ <;> omega) | (exact rfl) | (simp; done) | trace_state)
    · rw [if_pos rfl]
      have htk : List.take (es.length + 1) (List.map eEv es ++ [AV.agg [eI e.kind, eI e.tag, eI e.person, eI e.who]]) = List.map eEv (es ++ [e]) := by
        rw [List.take_of_length_le (by simp)]; simp
      have hw := c_l31Write (es ++ [e]) (by simp; omega) (by
        intro x hx
        rcases List.mem_append.1 hx with hx | hx
        · exact isJ_D (hf.1 x hx)
        · rw [List.mem_singleton] at hx; rw [hx]; exact isJ_D hj)
      generalize jWrite (es ++ [e]) = q at *
      simp -dsimp -implicitDefEqProofs only [go_sem, ↓reduceIte, Nat.reduceEqDiff, Nat.reduceLT, Nat.reduceAdd, Nat.reduceMul, Nat.reduceLeDiff, Nat.le_refl, Int.natCast_zero, Int.toNat_natCast, Int.reduceToNat, z1]
      refine sCallT_one hce ?_
      simp -dsimp -implicitDefEqProofs only [go_sem, ↓reduceIte, Nat.reduceEqDiff, Nat.reduceLT, Nat.reduceAdd, Nat.reduceMul, Nat.reduceLeDiff, Nat.le_refl, Int.natCast_zero, Int.toNat_natCast, Int.reduceToNat, hj, z2]
      refine Later.draw mixed rfl ?_
      simp -dsimp -implicitDefEqProofs only [go_sem, ↓reduceIte, Nat.reduceEqDiff, Nat.reduceLT, Nat.reduceAdd, Nat.reduceMul, Nat.reduceLeDiff, Nat.le_refl, Int.natCast_zero, Int.toNat_natCast, Int.reduceToNat]
      repeat' (with_reducible refine And.intro ?_ ?_)
      all_goals try (first | omega | (refine ⟨?_, ?_⟩ <;> omega) | (simp; done) | (exact rfl))
      simp only [htk]
      refine sCallX_one hw ?_
      simp -dsimp -implicitDefEqProofs only [go_sem, ↓reduceIte, Nat.reduceEqDiff, Nat.reduceLT, Nat.reduceAdd, Nat.reduceMul, Nat.reduceLeDiff, Nat.le_refl, Int.natCast_zero, Int.toNat_natCast, Int.reduceToNat]
      repeat' (with_reducible refine And.intro ?_ ?_)
      all_goals (first | omega | (refine ⟨?_, ?_⟩ <;> omega) | (exact rfl) | (simp; done) | trace_state)
def lastC (t : List UInt8) : Int × Int := if (rdJ t).2 = 0 then (jC 1 0 (rdJ t).1, 0) else (0, (rdJ t).2)
theorem c_iLastChain (t : List UInt8) (h : t.length ≤ 1048576) : Fn Tryz.prog 17 [eS t] true (· = .tup [eI (lastC t).1, eI (lastC t).2]) := by
  refine Fn.of_vcN 24 [.tmp 2, .tmp 3] Tryz.func17 rfl rfl rfl rfl rfl (of_decide_eq_true rfl) ?_
  unfold lastC
  have hc := c_iReadJournal t h
  simp -dsimp -implicitDefEqProofs only [go_sem, ↓reduceIte, Nat.reduceEqDiff, Nat.reduceLT, Nat.reduceAdd, Nat.reduceMul, Nat.reduceLeDiff, Nat.le_refl, Int.natCast_zero, Int.toNat_natCast, Int.reduceToNat]
  refine sCallT_one hc ?_
  rcases hk : ((rdJ t).2 != 0) with _ | _
  · have h0 : (rdJ t).2 = 0 := by simpa using hk
    have ht : t.length ≤ 1000 ∧ (rdJ t).1 = (readJ t).1 := by
      unfold rdJ at h0 ⊢
      split at h0
      · cases h0
      · rename_i h1
        split at h0
        · cases h0
        · rename_i h2
          rw [if_neg h1, if_neg h2]; exact ⟨by omega, rfl⟩
    have hr := c_readJournal t (by omega)
    have hf := readJ_facts t
    rw [if_pos h0, ht.2, ← hf.2.1]
    generalize readJ t = a at *
    generalize rdJ t = b at *
    simp -dsimp -implicitDefEqProofs only [go_sem, ↓reduceIte, Nat.reduceEqDiff, Nat.reduceLT, Nat.reduceAdd, Nat.reduceMul, Nat.reduceLeDiff, Nat.le_refl, Int.natCast_zero, Int.toNat_natCast, Int.reduceToNat, hk]
    refine sCallT_one hr ?_
    simp -dsimp -implicitDefEqProofs only [go_sem, ↓reduceIte, Nat.reduceEqDiff, Nat.reduceLT, Nat.reduceAdd, Nat.reduceMul, Nat.reduceLeDiff, Nat.le_refl, Int.natCast_zero, Int.toNat_natCast, Int.reduceToNat]
    repeat' (with_reducible refine And.intro ?_ ?_)
    all_goals (first | omega | (refine ⟨?_, ?_⟩ <;> omega) | (exact rfl) | (simp; done) | trace_state)
  · have h0 : ¬ (rdJ t).2 = 0 := by simpa using hk
    rw [if_neg h0]
    generalize rdJ t = b at *
    simp -dsimp -implicitDefEqProofs only [go_sem, ↓reduceIte, Nat.reduceEqDiff, Nat.reduceLT, Nat.reduceAdd, Nat.reduceMul, Nat.reduceLeDiff, Nat.le_refl, Int.natCast_zero, Int.toNat_natCast, Int.reduceToNat, hk]
    repeat' (with_reducible refine And.intro ?_ ?_)
    all_goals (first | omega | (refine ⟨?_, ?_⟩ <;> omega) | (exact rfl) | (simp; done) | trace_state)
theorem c_sLastChain (t : List UInt8) (h : t.length ≤ 1048576) : Fn Tryz.prog 18 [eS t] true (· = .tup [eI (lastC t).1, eI (lastC t).2]) := by
  refine Fn.of_vcN 31 [.tmp 2, .tmp 3] Tryz.func18 rfl rfl rfl rfl rfl (of_decide_eq_true rfl) ?_
  unfold lastC
  have hf := rdJ_facts t
  have hc := c_sReadJournal t h
  generalize rdJ t = a at *
  obtain ⟨es, code⟩ := a
  dsimp only at hf hc ⊢
  simp -dsimp -implicitDefEqProofs only [go_sem, ↓reduceIte, Nat.reduceEqDiff, Nat.reduceLT, Nat.reduceAdd, Nat.reduceMul, Nat.reduceLeDiff, Nat.le_refl, Int.natCast_zero, Int.toNat_natCast, Int.reduceToNat]
  refine sCallT_one hc ?_
  rcases hk : (code != 0) with _ | _
  · have h0 : code = 0 := by simpa using hk
    rw [if_pos h0]
    simp -dsimp -implicitDefEqProofs only [go_sem, ↓reduceIte, Nat.reduceEqDiff, Nat.reduceLT, Nat.reduceAdd, Nat.reduceMul, Nat.reduceLeDiff, Nat.le_refl, Int.natCast_zero, Int.toNat_natCast, Int.reduceToNat, hk]
    refine Later.up [4] [18, 28, 29] [] es.length (fun _ => True) (fun i => [(6, eI (jC 1 0 (es.take i))), (7, eI i)]) (fun _ => []) trivial ?_ rfl (fun i hi _ => ?_) (fun _ => ?_)
    · simp -dsimp -implicitDefEqProofs only [go_sem, ↓reduceIte, Nat.reduceEqDiff, Nat.reduceLT, Nat.reduceAdd, Nat.reduceMul, Nat.reduceLeDiff, Nat.le_refl, Int.natCast_zero, Int.toNat_natCast, Int.reduceToNat]
      exact rfl
    · have gi := get_some hi
      have hD := isJ_D (hf.1 es[i] (List.getElem_mem hi))
      have h2 := jC_in (es.take i) 1 0 (by omega)
      rw [jC_take hi]
      generalize es[i] = e at *
      generalize jC 1 0 (es.take i) = C at *
      have hhl := jHead_len (k := i) (by omega) hD.e64
      have hcH := c_l31Head i e (by omega) hD
      have hcC := c_l31Chain C (jHead i e) h2 (by omega)
      generalize jHead i e = w at *
      simp -dsimp -implicitDefEqProofs only [pick_nil, pick_cons, look_nil, look_cons, dropB_nil, dropB_cons, inD_nil, inD_cons, inE_nil, inE_cons, or_t_l, or_f_l, Nat.reduceBEq, Nat.reduceDiv, Nat.reduceAdd, beq_self_eq_true, Bool.false_eq_true, Bool.or_false, ↓reduceIte, Nat.reduceEqDiff, List.cons_append, List.nil_append]
      simp -dsimp -implicitDefEqProofs only [go_sem, ↓reduceIte, Nat.reduceEqDiff, Nat.reduceLT, Nat.reduceAdd, Nat.reduceMul, Nat.reduceLeDiff, Nat.le_refl, Int.natCast_zero, Int.toNat_natCast, Int.reduceToNat, lt_len hi, gi]
      repeat' (with_reducible refine And.intro ?_ ?_)
      all_goals try (first | omega | (refine ⟨?_, ?_⟩ <;> omega))
      refine sCallT_one hcH ?_
      simp -dsimp -implicitDefEqProofs only [go_sem, ↓reduceIte, Nat.reduceEqDiff, Nat.reduceLT, Nat.reduceAdd, Nat.reduceMul, Nat.reduceLeDiff, Nat.le_refl, Int.natCast_zero, Int.toNat_natCast, Int.reduceToNat]
      refine sCallT_one hcC ?_
      simp -dsimp -implicitDefEqProofs only [go_sem, ↓reduceIte, Nat.reduceEqDiff, Nat.reduceLT, Nat.reduceAdd, Nat.reduceMul, Nat.reduceLeDiff, Nat.le_refl, Int.natCast_zero, Int.toNat_natCast, Int.reduceToNat]
      repeat' (with_reducible refine And.intro ?_ ?_)
      all_goals (first | omega | (refine ⟨?_, ?_⟩ <;> omega) | (exact rfl) | (simp; done) | trace_state)
    · rw [List.take_length]
      simp -dsimp -implicitDefEqProofs only [pick_nil, pick_cons, look_nil, look_cons, dropB_nil, dropB_cons, inD_nil, inD_cons, inE_nil, inE_cons, or_t_l, or_f_l, Nat.reduceBEq, Nat.reduceDiv, Nat.reduceAdd, beq_self_eq_true, Bool.false_eq_true, Bool.or_false, ↓reduceIte, Nat.reduceEqDiff, List.cons_append, List.nil_append]
      simp -dsimp -implicitDefEqProofs only [go_sem, ↓reduceIte, Nat.reduceEqDiff, Nat.reduceLT, Nat.reduceAdd, Nat.reduceMul, Nat.reduceLeDiff, Nat.le_refl, Int.natCast_zero, Int.toNat_natCast, Int.reduceToNat, nlt_len]
  · have h0 : ¬ code = 0 := by simpa using hk
    rw [if_neg h0]
    simp -dsimp -implicitDefEqProofs only [go_sem, ↓reduceIte, Nat.reduceEqDiff, Nat.reduceLT, Nat.reduceAdd, Nat.reduceMul, Nat.reduceLeDiff, Nat.le_refl, Int.natCast_zero, Int.toNat_natCast, Int.reduceToNat, hk]
    repeat' (with_reducible refine And.intro ?_ ?_)
    all_goals (first | omega | (refine ⟨?_, ?_⟩ <;> omega) | (exact rfl) | (simp; done) | trace_state)
def byP (es : List EvM) (p : Int) (i : Nat) : Bool := match es[i]? with | some e => e.who == p | none => false
def evBy (t : List UInt8) (p : Int) : List Int × Int := if (rdJ t).2 = 0 then (flt (byP (rdJ t).1 p) (rdJ t).1.length, 0) else ([], (rdJ t).2)
theorem byP_get {es : List EvM} {p : Int} {i : Nat} (h : i < es.length) : byP es p i = (es[i].who == p) := by
  unfold byP; rw [List.getElem?_eq_getElem h]
theorem c_iEventsBy (t : List UInt8) (p : Int) (h : t.length ≤ 1048576) : Fn Tryz.prog 20 [eS t, eI p] true (· = .tup [eIs (evBy t p).1, eI (evBy t p).2]) := by
  refine Fn.of_vcN 37 [.tmp 4, .tmp 5] Tryz.func20 rfl rfl rfl rfl rfl (of_decide_eq_true rfl) ?_
  unfold evBy
  have hf := rdJ_facts t
  have hc := c_iReadJournal t h
  generalize rdJ t = a at *
  obtain ⟨es, code⟩ := a
  dsimp only at hf hc ⊢
  simp -dsimp -implicitDefEqProofs only [go_sem, ↓reduceIte, Nat.reduceEqDiff, Nat.reduceLT, Nat.reduceAdd, Nat.reduceMul, Nat.reduceLeDiff, Nat.le_refl, Int.natCast_zero, Int.toNat_natCast, Int.reduceToNat]
  refine sCallT_one hc ?_
  rcases hk : (code != 0) with _ | _
  · have h0 : code = 0 := by simpa using hk
    rw [if_pos h0]
    simp -dsimp -implicitDefEqProofs only [go_sem, ↓reduceIte, Nat.reduceEqDiff, Nat.reduceLT, Nat.reduceAdd, Nat.reduceMul, Nat.reduceLeDiff, Nat.le_refl, Int.natCast_zero, Int.toNat_natCast, Int.reduceToNat, hk]
    refine Later.up [1, 20, 21] [10, 33, 34] [19] es.length (fun _ => True) (fun i => [(8, .ref 19 0 0 (flt (byP es p) i).length), (22, eI i)]) (fun i => [(19, .row 0 ⟨1, false⟩ true ((flt (byP es p) i).map eI))]) trivial ?_ rfl (fun i hi _ => ?_) (fun _ => ?_)
    · simp -dsimp -implicitDefEqProofs only [go_sem, ↓reduceIte, Nat.reduceEqDiff, Nat.reduceLT, Nat.reduceAdd, Nat.reduceMul, Nat.reduceLeDiff, Nat.le_refl, Int.natCast_zero, Int.toNat_natCast, Int.reduceToNat]
      simp [flt_zero]
    · have gi := get_some hi
      have hs := flt_succ (byP es p) i
      have hl := flt_len (byP es p) i
      rw [byP_get hi] at hs
      rw [hs]
      generalize es[i] = e at *
      generalize flt (byP es p) i = fl at *
      rcases hw : (e.who == p) with _ | _
      · rw [if_neg (by decide)]
        simp -dsimp -implicitDefEqProofs only [pick_nil, pick_cons, look_nil, look_cons, dropB_nil, dropB_cons, inD_nil, inD_cons, inE_nil, inE_cons, or_t_l, or_f_l, Nat.reduceBEq, Nat.reduceDiv, Nat.reduceAdd, beq_self_eq_true, Bool.false_eq_true, Bool.or_false, ↓reduceIte, Nat.reduceEqDiff, List.cons_append, List.nil_append]
        simp -dsimp -implicitDefEqProofs only [go_sem, ↓reduceIte, Nat.reduceEqDiff, Nat.reduceLT, Nat.reduceAdd, Nat.reduceMul, Nat.reduceLeDiff, Nat.le_refl, Int.natCast_zero, Int.toNat_natCast, Int.reduceToNat, lt_len hi, gi, hw]
        repeat' (with_reducible refine And.intro ?_ ?_)
        all_goals (first | omega | (refine ⟨?_, ?_⟩ <;> omega) | (exact rfl) | (simp; done) | trace_state)
      · rw [if_pos rfl]
        simp -dsimp -implicitDefEqProofs only [pick_nil, pick_cons, look_nil, look_cons, dropB_nil, dropB_cons, inD_nil, inD_cons, inE_nil, inE_cons, or_t_l, or_f_l, Nat.reduceBEq, Nat.reduceDiv, Nat.reduceAdd, beq_self_eq_true, Bool.false_eq_true, Bool.or_false, ↓reduceIte, Nat.reduceEqDiff, List.cons_append, List.nil_append]
        simp -dsimp -implicitDefEqProofs only [go_sem, ↓reduceIte, Nat.reduceEqDiff, Nat.reduceLT, Nat.reduceAdd, Nat.reduceMul, Nat.reduceLeDiff, Nat.le_refl, Int.natCast_zero, Int.toNat_natCast, Int.reduceToNat, lt_len hi, gi, hw]
        repeat' (with_reducible refine And.intro ?_ ?_)
        all_goals (first | omega | (refine ⟨?_, ?_⟩ <;> omega) | (exact rfl) | (simp; done) | trace_state)
    · simp -dsimp -implicitDefEqProofs only [pick_nil, pick_cons, look_nil, look_cons, dropB_nil, dropB_cons, inD_nil, inD_cons, inE_nil, inE_cons, or_t_l, or_f_l, Nat.reduceBEq, Nat.reduceDiv, Nat.reduceAdd, beq_self_eq_true, Bool.false_eq_true, Bool.or_false, ↓reduceIte, Nat.reduceEqDiff, List.cons_append, List.nil_append]
      simp -dsimp -implicitDefEqProofs only [go_sem, ↓reduceIte, Nat.reduceEqDiff, Nat.reduceLT, Nat.reduceAdd, Nat.reduceMul, Nat.reduceLeDiff, Nat.le_refl, Int.natCast_zero, Int.toNat_natCast, Int.reduceToNat, nlt_len]
      repeat' (with_reducible refine And.intro ?_ ?_)
      all_goals (first | omega | (refine ⟨?_, ?_⟩ <;> omega) | (exact rfl) | (simp; done) | trace_state)
  · have h0 : ¬ code = 0 := by simpa using hk
    rw [if_neg h0]
    simp -dsimp -implicitDefEqProofs only [go_sem, ↓reduceIte, Nat.reduceEqDiff, Nat.reduceLT, Nat.reduceAdd, Nat.reduceMul, Nat.reduceLeDiff, Nat.le_refl, Int.natCast_zero, Int.toNat_natCast, Int.reduceToNat, hk]
    repeat' (with_reducible refine And.intro ?_ ?_)
    all_goals (first | omega | (refine ⟨?_, ?_⟩ <;> omega) | (exact rfl) | (simp; done) | trace_state)
theorem c_sEventsBy (t : List UInt8) (p : Int) (h : t.length ≤ 1048576) : Fn Tryz.prog 21 [eS t, eI p] true (· = .tup [eIs (evBy t p).1, eI (evBy t p).2]) := by
  refine Fn.of_vcN 37 [.tmp 4, .tmp 5] Tryz.func21 rfl rfl rfl rfl rfl (of_decide_eq_true rfl) ?_
  unfold evBy
  have hf := rdJ_facts t
  have hc := c_sReadJournal t h
  generalize rdJ t = a at *
  obtain ⟨es, code⟩ := a
  dsimp only at hf hc ⊢
  simp -dsimp -implicitDefEqProofs only [go_sem, ↓reduceIte, Nat.reduceEqDiff, Nat.reduceLT, Nat.reduceAdd, Nat.reduceMul, Nat.reduceLeDiff, Nat.le_refl, Int.natCast_zero, Int.toNat_natCast, Int.reduceToNat]
  refine sCallT_one hc ?_
  rcases hk : (code != 0) with _ | _
  · have h0 : code = 0 := by simpa using hk
    rw [if_pos h0]
    simp -dsimp -implicitDefEqProofs only [go_sem, ↓reduceIte, Nat.reduceEqDiff, Nat.reduceLT, Nat.reduceAdd, Nat.reduceMul, Nat.reduceLeDiff, Nat.le_refl, Int.natCast_zero, Int.toNat_natCast, Int.reduceToNat, hk]
    refine Later.up [1, 6] [21, 34, 35] [18] es.length (fun _ => True) (fun i => [(8, .ref 18 0 0 (flt (byP es p) i).length), (9, eI i)]) (fun i => [(18, .row 0 ⟨1, false⟩ true ((flt (byP es p) i).map eI))]) trivial ?_ rfl (fun i hi _ => ?_) (fun _ => ?_)
    · simp -dsimp -implicitDefEqProofs only [go_sem, ↓reduceIte, Nat.reduceEqDiff, Nat.reduceLT, Nat.reduceAdd, Nat.reduceMul, Nat.reduceLeDiff, Nat.le_refl, Int.natCast_zero, Int.toNat_natCast, Int.reduceToNat]
      simp [flt_zero]
    · have gi := get_some hi
      have hs := flt_succ (byP es p) i
      have hl := flt_len (byP es p) i
      rw [byP_get hi] at hs
      rw [hs]
      generalize es[i] = e at *
      generalize flt (byP es p) i = fl at *
      rcases hw : (e.who == p) with _ | _
      · rw [if_neg (by decide)]
        simp -dsimp -implicitDefEqProofs only [pick_nil, pick_cons, look_nil, look_cons, dropB_nil, dropB_cons, inD_nil, inD_cons, inE_nil, inE_cons, or_t_l, or_f_l, Nat.reduceBEq, Nat.reduceDiv, Nat.reduceAdd, beq_self_eq_true, Bool.false_eq_true, Bool.or_false, ↓reduceIte, Nat.reduceEqDiff, List.cons_append, List.nil_append]
        simp -dsimp -implicitDefEqProofs only [go_sem, ↓reduceIte, Nat.reduceEqDiff, Nat.reduceLT, Nat.reduceAdd, Nat.reduceMul, Nat.reduceLeDiff, Nat.le_refl, Int.natCast_zero, Int.toNat_natCast, Int.reduceToNat, lt_len hi, gi, hw]
        repeat' (with_reducible refine And.intro ?_ ?_)
        all_goals (first | omega | (refine ⟨?_, ?_⟩ <;> omega) | (exact rfl) | (simp; done) | trace_state)
      · rw [if_pos rfl]
        simp -dsimp -implicitDefEqProofs only [pick_nil, pick_cons, look_nil, look_cons, dropB_nil, dropB_cons, inD_nil, inD_cons, inE_nil, inE_cons, or_t_l, or_f_l, Nat.reduceBEq, Nat.reduceDiv, Nat.reduceAdd, beq_self_eq_true, Bool.false_eq_true, Bool.or_false, ↓reduceIte, Nat.reduceEqDiff, List.cons_append, List.nil_append]
        simp -dsimp -implicitDefEqProofs only [go_sem, ↓reduceIte, Nat.reduceEqDiff, Nat.reduceLT, Nat.reduceAdd, Nat.reduceMul, Nat.reduceLeDiff, Nat.le_refl, Int.natCast_zero, Int.toNat_natCast, Int.reduceToNat, lt_len hi, gi, hw]
        repeat' (with_reducible refine And.intro ?_ ?_)
        all_goals (first | omega | (refine ⟨?_, ?_⟩ <;> omega) | (exact rfl) | (simp; done) | trace_state)
    · simp -dsimp -implicitDefEqProofs only [pick_nil, pick_cons, look_nil, look_cons, dropB_nil, dropB_cons, inD_nil, inD_cons, inE_nil, inE_cons, or_t_l, or_f_l, Nat.reduceBEq, Nat.reduceDiv, Nat.reduceAdd, beq_self_eq_true, Bool.false_eq_true, Bool.or_false, ↓reduceIte, Nat.reduceEqDiff, List.cons_append, List.nil_append]
      simp -dsimp -implicitDefEqProofs only [go_sem, ↓reduceIte, Nat.reduceEqDiff, Nat.reduceLT, Nat.reduceAdd, Nat.reduceMul, Nat.reduceLeDiff, Nat.le_refl, Int.natCast_zero, Int.toNat_natCast, Int.reduceToNat, nlt_len]
      repeat' (with_reducible refine And.intro ?_ ?_)
      all_goals (first | omega | (refine ⟨?_, ?_⟩ <;> omega) | (exact rfl) | (simp; done) | trace_state)
  · have h0 : ¬ code = 0 := by simpa using hk
    rw [if_neg h0]
    simp -dsimp -implicitDefEqProofs only [go_sem, ↓reduceIte, Nat.reduceEqDiff, Nat.reduceLT, Nat.reduceAdd, Nat.reduceMul, Nat.reduceLeDiff, Nat.le_refl, Int.natCast_zero, Int.toNat_natCast, Int.reduceToNat, hk]
    repeat' (with_reducible refine And.intro ?_ ?_)
    all_goals (first | omega | (refine ⟨?_, ?_⟩ <;> omega) | (exact rfl) | (simp; done) | trace_state)
end Go.Vc
