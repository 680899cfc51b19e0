/-
  Contracts: the parts of a text and the numbers in it, as the reference reads them.
-/
import Derived.Test.YtlelhmbhhnokoaaDoorStr
set_option linter.unusedVariables false
set_option linter.unusedSimpArgs false
set_option linter.unnecessarySimpa false
namespace Go.Vc
open Go.Proofs Go.Lib
set_option maxRecDepth 100000
/- cutting a text from the left -/
def splSt (c : UInt8) (s : List UInt8) : Nat → List (List UInt8) × Nat
  | 0 => ([], 0)
  | i + 1 => if i = s.length ∨ s.getD i 0 = c then ((splSt c s i).1 ++ [(s.take i).drop (splSt c s i).2], i + 1) else splSt c s i
theorem drop_mid {α : Type} {s : List α} {i j : Nat} {x : α} (h : s[i]? = some x) (hj : j ≤ i) : s.drop j = (s.take i).drop j ++ x :: s.drop (i + 1) := by
  obtain ⟨hlt, he⟩ := List.getElem?_eq_some_iff.1 h
  have e : s.take i ++ x :: s.drop (i + 1) = s := by rw [← he, ← List.drop_eq_getElem_cons hlt, List.take_append_drop]
  rw [← List.drop_append_of_le_length (by simp; omega), e]
theorem splSt_inv (c : UInt8) (s : List UInt8) : ∀ i, i ≤ s.length → spl c s = (splSt c s i).1 ++ spl c (s.drop (splSt c s i).2) ∧ (splSt c s i).2 ≤ i ∧ c ∉ (s.take i).drop (splSt c s i).2 ∧ (splSt c s i).1.length ≤ i
  | 0, _ => by simp [splSt]
  | i + 1, hi => by
    obtain ⟨h1, h2, h3, h4⟩ := splSt_inv c s i (by omega)
    have hlt : i < s.length := by omega
    have hg : s.getD i 0 = s[i] := by rw [List.getD_eq_getElem?_getD, List.getElem?_eq_getElem hlt]; rfl
    rw [splSt]
    by_cases hc : s[i] = c
    · rw [if_pos (.inr (by rw [hg]; exact hc))]
      dsimp only
      refine ⟨?_, Nat.le_refl _, ?_, by simp; omega⟩
      · rw [List.append_assoc, h1]
        congr 1
        have e := drop_mid (s := s) (i := i) (j := (splSt c s i).2) (by rw [List.getElem?_eq_getElem hlt, hc]) h2
        rw [e, spl_app _ h3]; rfl
      · rw [List.drop_eq_nil_of_le (by simp; omega)]; exact List.not_mem_nil
    · rw [if_neg (by rw [hg]; rintro (h | h); · omega
                     · exact hc h)]
      refine ⟨h1, by omega, ?_, by omega⟩
      rw [List.take_succ_eq_append_getElem hlt, List.drop_append]
      intro hm
      rcases List.mem_append.1 hm with hm | hm
      · exact h3 hm
      · have : (s.take i).length = i := by simp; omega
        rw [this, show (splSt c s i).2 - i = 0 by omega] at hm
        simp at hm
        exact hc hm.symm
theorem splSt_end (c : UInt8) (s : List UInt8) : (splSt c s (s.length + 1)).1 = spl c s := by
  obtain ⟨h1, h2, h3, h4⟩ := splSt_inv c s s.length (Nat.le_refl _)
  rw [splSt, if_pos (.inl rfl)]
  rw [List.take_length] at h3 ⊢
  rw [h1, spl_none h3]
theorem splSt_le (c : UInt8) (s : List UInt8) : ∀ i, (splSt c s i).1.length ≤ i ∧ (splSt c s i).2 ≤ i
  | 0 => by simp [splSt]
  | i + 1 => by
    have := splSt_le c s i
    rw [splSt]
    split
    · simp; omega
    · omega
theorem u8_eq (a b : UInt8) : (((a.toNat : Int) == (b.toNat : Int)) = true) ↔ a = b := by
  rw [beq_iff_eq]
  constructor
  · intro h; exact UInt8.toNat_inj.1 (by omega)
  · intro h; rw [h]
theorem c_l01Split (s : List UInt8) (c : UInt8) (h : s.length ≤ 1048576) : Fn Tryd.prog 40 [eS s, .val (.int .u8 c.toNat)] true (· = eSs (spl c s)) := by
  refine Fn.of_vcN 36 [.tmp 4] Tryd.func40 rfl rfl rfl rfl rfl (of_decide_eq_true rfl) ?_
  simp -dsimp -implicitDefEqProofs only [go_sem, ↓reduceIte, Nat.reduceEqDiff, Nat.reduceLT, Nat.reduceAdd, Nat.reduceMul, Nat.reduceLeDiff, Nat.le_refl, Int.natCast_zero, Int.toNat_natCast, Int.reduceToNat]
  refine Later.up [0, 1] [11, 17, 31, 32] [8] (s.length + 1) (fun _ => True) (fun i => [(5, .ref 8 0 0 (splSt c s i).1.length), (6, eI ((splSt c s i).2 : Nat)), (7, eI i)]) (fun i => [(8, .row 0 ⟨1, false⟩ true ((splSt c s i).1.map eS))]) trivial ?_ rfl (fun i hi _ => ?_) (fun _ => ?_)
  · simp -dsimp -implicitDefEqProofs only [go_sem, ↓reduceIte, Nat.reduceEqDiff, Nat.reduceLT, Nat.reduceAdd, Nat.reduceMul, Nat.reduceLeDiff, Nat.le_refl, Int.natCast_zero, Int.toNat_natCast, Int.reduceToNat]
    simp [splSt]
  · have hle := splSt_le c s i
    have d1 : decide ((i : Int) ≤ (s.length : Int)) = true := decide_eq_true (by omega)
    have hst : splSt c s (i + 1) = if i = s.length ∨ s.getD i 0 = c then ((splSt c s i).1 ++ [(s.take i).drop (splSt c s i).2], i + 1) else splSt c s i := rfl
    rw [hst]
    clear hst
    generalize splSt c s i = q at *
    obtain ⟨out, fr⟩ := q
    dsimp only at hle ⊢
    rcases he : ((i : Int) == (s.length : Int)) with _ | _
    · have hne : i ≠ s.length := by intro e; subst e; simp at he
      have hlt : i < s.length := by omega
      have hg : s.getD i 0 = s[i] := by rw [List.getD_eq_getElem?_getD, List.getElem?_eq_getElem hlt]; rfl
      have hu := u8_eq s[i] c
      rw [hg]
      generalize s[i] = b at *
      rcases hb : ((b.toNat : Int) == (c.toNat : Int)) with _ | _
      · have hbc : b ≠ c := fun e => by rw [hu.2 e] at hb; cases hb
        rw [if_neg (by rintro (w | w); · exact hne w
                       · exact hbc w)]
        simp -dsimp -implicitDefEqProofs only [pick_nil, pick_cons, look_nil, look_cons, dropB_nil, dropB_cons, inD_nil, inD_cons, inE_nil, inE_cons, or_t_l, or_f_l, Nat.reduceBEq, Nat.reduceDiv, Nat.reduceAdd, beq_self_eq_true, Bool.false_eq_true, Bool.or_false, ↓reduceIte, Nat.reduceEqDiff, List.cons_append, List.nil_append]
        simp -dsimp -implicitDefEqProofs only [go_sem, ↓reduceIte, Nat.reduceEqDiff, Nat.reduceLT, Nat.reduceAdd, Nat.reduceMul, Nat.reduceLeDiff, Nat.le_refl, Int.natCast_zero, Int.toNat_natCast, Int.reduceToNat, d1, he, hg, hb]
        repeat' (with_reducible refine And.intro ?_ ?_)
        all_goals (first | omega | (refine ⟨?_, ?_⟩ <;> omega) | (exact rfl) | (simp; done) | trace_state)
      · rw [if_pos (.inr (hu.1 hb))]
        simp -dsimp -implicitDefEqProofs only [pick_nil, pick_cons, look_nil, look_cons, dropB_nil, dropB_cons, inD_nil, inD_cons, inE_nil, inE_cons, or_t_l, or_f_l, Nat.reduceBEq, Nat.reduceDiv, Nat.reduceAdd, beq_self_eq_true, Bool.false_eq_true, Bool.or_false, ↓reduceIte, Nat.reduceEqDiff, List.cons_append, List.nil_append]
        simp -dsimp -implicitDefEqProofs only [go_sem, ↓reduceIte, Nat.reduceEqDiff, Nat.reduceLT, Nat.reduceAdd, Nat.reduceMul, Nat.reduceLeDiff, Nat.le_refl, Int.natCast_zero, Int.toNat_natCast, Int.reduceToNat, d1, he, hg, hb]
        repeat' (with_reducible refine And.intro ?_ ?_)
        all_goals try (first | omega | (refine ⟨?_, ?_⟩ <;> omega) | (refine ⟨?_, ?_, ?_⟩ <;> omega))
        all_goals try simp -dsimp -implicitDefEqProofs only [go_sem, ↓reduceIte, Nat.reduceEqDiff, Nat.reduceLT, Nat.reduceAdd, Nat.reduceMul, Nat.reduceLeDiff, Nat.le_refl, Int.natCast_zero, Int.toNat_natCast, Int.reduceToNat]
        repeat' (with_reducible refine And.intro ?_ ?_)
        all_goals first | omega | (refine ⟨?_, ?_⟩ <;> omega) | (refine ⟨?_, ?_, ?_⟩ <;> omega) | (simp; done) | (exact rfl) | trace_state
    · have hq : i = s.length := by have := beq_iff_eq.1 he; omega
      rw [if_pos (.inl hq)]
      simp -dsimp -implicitDefEqProofs only [pick_nil, pick_cons, look_nil, look_cons, dropB_nil, dropB_cons, inD_nil, inD_cons, inE_nil, inE_cons, or_t_l, or_f_l, Nat.reduceBEq, Nat.reduceDiv, Nat.reduceAdd, beq_self_eq_true, Bool.false_eq_true, Bool.or_false, ↓reduceIte, Nat.reduceEqDiff, List.cons_append, List.nil_append]
      simp -dsimp -implicitDefEqProofs only [go_sem, ↓reduceIte, Nat.reduceEqDiff, Nat.reduceLT, Nat.reduceAdd, Nat.reduceMul, Nat.reduceLeDiff, Nat.le_refl, Int.natCast_zero, Int.toNat_natCast, Int.reduceToNat, d1, he]
      repeat' (with_reducible refine And.intro ?_ ?_)
      all_goals try (first | omega | (refine ⟨?_, ?_⟩ <;> omega) | (refine ⟨?_, ?_, ?_⟩ <;> omega))
      all_goals try simp -dsimp -implicitDefEqProofs only [go_sem, ↓reduceIte, Nat.reduceEqDiff, Nat.reduceLT, Nat.reduceAdd, Nat.reduceMul, Nat.reduceLeDiff, Nat.le_refl, Int.natCast_zero, Int.toNat_natCast, Int.reduceToNat]
      repeat' (with_reducible refine And.intro ?_ ?_)
      all_goals first | omega | (refine ⟨?_, ?_⟩ <;> omega) | (refine ⟨?_, ?_, ?_⟩ <;> omega) | (simp; done) | (exact rfl) | trace_state
  · have d1 : decide (((s.length + 1 : Nat) : Int) ≤ (s.length : Int)) = false := decide_eq_false (by omega)
    rw [splSt_end]
    simp -dsimp -implicitDefEqProofs only [pick_nil, pick_cons, look_nil, look_cons, dropB_nil, dropB_cons, inD_nil, inD_cons, inE_nil, inE_cons, or_t_l, or_f_l, Nat.reduceBEq, Nat.reduceDiv, Nat.reduceAdd, beq_self_eq_true, Bool.false_eq_true, Bool.or_false, ↓reduceIte, Nat.reduceEqDiff, List.cons_append, List.nil_append]
    simp -dsimp -implicitDefEqProofs only [go_sem, ↓reduceIte, Nat.reduceEqDiff, Nat.reduceLT, Nat.reduceAdd, Nat.reduceMul, Nat.reduceLeDiff, Nat.le_refl, Int.natCast_zero, Int.toNat_natCast, Int.reduceToNat, d1]
    all_goals first | (simp; done) | (exact rfl) | trace_state
theorem isd_u8 (b : UInt8) : (decide (48 ≤ b.toNat) && decide (b.toNat ≤ 57)) = (!(decide ((b.toNat : Int) < 48) || decide ((b.toNat : Int) > 57))) := by
  by_cases h1 : 48 ≤ b.toNat
  · by_cases h2 : b.toNat ≤ 57
    · rw [decide_eq_true h1, decide_eq_true h2, decide_eq_false (by omega), decide_eq_false (by omega)]; rfl
    · rw [decide_eq_true h1, decide_eq_false h2, decide_eq_false (by omega), decide_eq_true (by omega)]; rfl
  · rw [decide_eq_false h1, decide_eq_true (show (b.toNat : Int) < 48 by omega)]; rfl
abbrev isDig (b : UInt8) : Bool := decide (48 ≤ b.toNat) && decide (b.toNat ≤ 57)
theorem pow13 {n : Nat} (h : n ≤ 13) : 10 ^ n ≤ 10000000000000 := by
  have := Nat.pow_le_pow_right (show 0 < 10 by decide) h
  exact this
theorem c_l01Value (s : List UInt8) (h : s.length ≤ 1048576) : Fn Tryd.prog 41 [eS s] true (· = .tup [eI (valD s).1, eB (valD s).2]) := by
  refine Fn.of_vcN 43 [.tmp 2, .tmp 3] Tryd.func41 rfl rfl rfl rfl rfl (of_decide_eq_true rfl) ?_
  unfold valD
  rcases h1 : decide ((s.length : Int) < 1) with _ | _
  · rcases h13 : decide ((s.length : Int) > 13) with _ | _
    · have g1 := of_decide_eq_false h1
      have g2 := of_decide_eq_false h13
      rw [if_neg (by omega)]
      have hv : ∀ i, i ≤ s.length → ((s.take i).all isDig) = true → dval 0 (s.take i) ≤ 10000000000000 := by
        intro i hi hall
        have h3 := dval_lt (s.take i) 0 (fun c hc => by have := List.all_eq_true.1 hall c hc; simpa [isDig] using this)
        have h4 := pow13 (n := (s.take i).length) (by simp; omega)
        rw [Nat.zero_add, Nat.one_mul] at h3
        omega
      simp -dsimp -implicitDefEqProofs only [go_sem, ↓reduceIte, Nat.reduceEqDiff, Nat.reduceLT, Nat.reduceAdd, Nat.reduceMul, Nat.reduceLeDiff, Nat.le_refl, Int.natCast_zero, Int.toNat_natCast, Int.reduceToNat, h1, h13]
      refine Later.up [0] [16] [] s.length (fun i => ((s.take i).all isDig) = true) (fun i => [(4, eI ((dval 0 (s.take i) : Nat) : Int)), (5, eI i)]) (fun _ => []) rfl ?_ rfl (fun i hi hI => ?_) (fun hI => ?_)
      · simp -dsimp -implicitDefEqProofs only [go_sem, ↓reduceIte, Nat.reduceEqDiff, Nat.reduceLT, Nat.reduceAdd, Nat.reduceMul, Nat.reduceLeDiff, Nat.le_refl, Int.natCast_zero, Int.toNat_natCast, Int.reduceToNat]
        exact rfl
      · have hb := (s[i]).toNat_lt
        have hg : (s.getD i 0) = s[i] := by rw [List.getD_eq_getElem?_getD, List.getElem?_eq_getElem hi]; rfl
        have hall := all_take isDig s i hi
        have hno := fun h => all_no (p := isDig) hi h
        have hdv : dval 0 (s.take (i + 1)) = dval 0 (s.take i) * 10 + ((s[i]).toNat - 48) := by rw [List.take_succ_eq_append_getElem hi, dval_app]; rfl
        have hv1 := hv i (by omega) hI
        have hd := isd_u8 s[i]
        rw [hdv]
        clear hdv hv
        generalize s[i] = b at *
        generalize dval 0 (s.take i) = z at *
        rcases d1 : decide ((b.toNat : Int) < 48) with _ | _
        · rcases d2 : decide ((b.toNat : Int) > 57) with _ | _
          · have e1 := of_decide_eq_false d1
            have e2 := of_decide_eq_false d2
            have hw : IntKind.u8.wrap ((b.toNat : Int) - 48) = (b.toNat : Int) - 48 := u8_wrap (by omega)
            simp -dsimp -implicitDefEqProofs only [pick_nil, pick_cons, look_nil, look_cons, dropB_nil, dropB_cons, inD_nil, inD_cons, inE_nil, inE_cons, or_t_l, or_f_l, Nat.reduceBEq, Nat.reduceDiv, Nat.reduceAdd, beq_self_eq_true, Bool.false_eq_true, Bool.or_false, ↓reduceIte, Nat.reduceEqDiff, List.cons_append, List.nil_append]
            simp -dsimp -implicitDefEqProofs only [go_sem, ↓reduceIte, Nat.reduceEqDiff, Nat.reduceLT, Nat.reduceAdd, Nat.reduceMul, Nat.reduceLeDiff, Nat.le_refl, Int.natCast_zero, Int.toNat_natCast, Int.reduceToNat, lt_len hi, hg, d1, d2, hw]
            repeat' (with_reducible refine And.intro ?_ ?_)
            all_goals first | omega | (refine ⟨?_, ?_⟩ <;> omega) | (rw [hall, hI]; show isDig b = true; rw [isDig, hd, d1, d2]; rfl) | (simp; omega) | (simp; done) | trace_state
          · have hz := hno (by rw [isDig, hd, d1, d2]; rfl)
            rw [if_neg (by rw [show (s.all fun c => decide (48 ≤ c.toNat) && decide (c.toNat ≤ 57)) = s.all isDig from rfl, hz]; decide)]
            simp -dsimp -implicitDefEqProofs only [pick_nil, pick_cons, look_nil, look_cons, dropB_nil, dropB_cons, inD_nil, inD_cons, inE_nil, inE_cons, or_t_l, or_f_l, Nat.reduceBEq, Nat.reduceDiv, Nat.reduceAdd, beq_self_eq_true, Bool.false_eq_true, Bool.or_false, ↓reduceIte, Nat.reduceEqDiff, List.cons_append, List.nil_append]
            simp -dsimp -implicitDefEqProofs only [go_sem, ↓reduceIte, Nat.reduceEqDiff, Nat.reduceLT, Nat.reduceAdd, Nat.reduceMul, Nat.reduceLeDiff, Nat.le_refl, Int.natCast_zero, Int.toNat_natCast, Int.reduceToNat, lt_len hi, hg, d1, d2]
            repeat' (with_reducible refine And.intro ?_ ?_)
            all_goals (first | omega | (refine ⟨?_, ?_⟩ <;> omega) | (exact rfl) | (simp; done) | trace_state)
        · have hz := hno (by rw [isDig, hd, d1]; rfl)
          rw [if_neg (by rw [show (s.all fun c => decide (48 ≤ c.toNat) && decide (c.toNat ≤ 57)) = s.all isDig from rfl, hz]; decide)]
          simp -dsimp -implicitDefEqProofs only [pick_nil, pick_cons, look_nil, look_cons, dropB_nil, dropB_cons, inD_nil, inD_cons, inE_nil, inE_cons, or_t_l, or_f_l, Nat.reduceBEq, Nat.reduceDiv, Nat.reduceAdd, beq_self_eq_true, Bool.false_eq_true, Bool.or_false, ↓reduceIte, Nat.reduceEqDiff, List.cons_append, List.nil_append]
          simp -dsimp -implicitDefEqProofs only [go_sem, ↓reduceIte, Nat.reduceEqDiff, Nat.reduceLT, Nat.reduceAdd, Nat.reduceMul, Nat.reduceLeDiff, Nat.le_refl, Int.natCast_zero, Int.toNat_natCast, Int.reduceToNat, lt_len hi, hg, d1]
          repeat' (with_reducible refine And.intro ?_ ?_)
          all_goals (first | omega | (refine ⟨?_, ?_⟩ <;> omega) | (exact rfl) | (simp; done) | trace_state)
      · rw [List.take_length] at hI
        have hv1 := hv s.length (Nat.le_refl _) (by rw [List.take_length]; exact hI)
        rw [List.take_length] at hv1
        rw [if_pos (show (s.all fun c => decide (48 ≤ c.toNat) && decide (c.toNat ≤ 57)) = true from hI), List.take_length]
        have hcd := c_l01Dec (dval 0 s) (by omega)
        generalize dval 0 s = z at *
        simp -dsimp -implicitDefEqProofs only [pick_nil, pick_cons, look_nil, look_cons, dropB_nil, dropB_cons, inD_nil, inD_cons, inE_nil, inE_cons, or_t_l, or_f_l, Nat.reduceBEq, Nat.reduceDiv, Nat.reduceAdd, beq_self_eq_true, Bool.false_eq_true, Bool.or_false, ↓reduceIte, Nat.reduceEqDiff, List.cons_append, List.nil_append]
        simp -dsimp -implicitDefEqProofs only [go_sem, ↓reduceIte, Nat.reduceEqDiff, Nat.reduceLT, Nat.reduceAdd, Nat.reduceMul, Nat.reduceLeDiff, Nat.le_refl, Int.natCast_zero, Int.toNat_natCast, Int.reduceToNat, nlt_len]
        refine sCallT_one hcd ?_
        simp -dsimp -implicitDefEqProofs only [go_sem, ↓reduceIte, Nat.reduceEqDiff, Nat.reduceLT, Nat.reduceAdd, Nat.reduceMul, Nat.reduceLeDiff, Nat.le_refl, Int.natCast_zero, Int.toNat_natCast, Int.reduceToNat]
        all_goals (first | omega | (refine ⟨?_, ?_⟩ <;> omega) | (exact rfl) | (simp; done) | trace_state)
    · have g1 := of_decide_eq_true h13
      rw [if_pos (by omega)]
      simp -dsimp -implicitDefEqProofs only [go_sem, ↓reduceIte, Nat.reduceEqDiff, Nat.reduceLT, Nat.reduceAdd, Nat.reduceMul, Nat.reduceLeDiff, Nat.le_refl, Int.natCast_zero, Int.toNat_natCast, Int.reduceToNat, h1, h13]
      repeat' (with_reducible refine And.intro ?_ ?_)
      all_goals (first | omega | (refine ⟨?_, ?_⟩ <;> omega) | (exact rfl) | (simp; done) | trace_state)
  · have g1 := of_decide_eq_true h1
    rw [if_pos (by omega)]
    simp -dsimp -implicitDefEqProofs only [go_sem, ↓reduceIte, Nat.reduceEqDiff, Nat.reduceLT, Nat.reduceAdd, Nat.reduceMul, Nat.reduceLeDiff, Nat.le_refl, Int.natCast_zero, Int.toNat_natCast, Int.reduceToNat, h1]
    repeat' (with_reducible refine And.intro ?_ ?_)
    all_goals (first | omega | (refine ⟨?_, ?_⟩ <;> omega) | (exact rfl) | (simp; done) | trace_state)
end Go.Vc
