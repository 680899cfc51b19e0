/-
  Contracts: keys; desks; the law FnExactIsDesk.
-/
import Derived.Test.YtphhlffifljciaaDesk2
set_option linter.unusedVariables false
set_option linter.unusedSimpArgs false
set_option linter.unnecessarySimpa false
namespace Go.Vc
open Go.Proofs
set_option maxRecDepth 100000
def key1 (m : MkM) (c : List Int) : Bool := fault m c == 0
theorem c_isKey (m : MkM) (c : List Int) (hm : isMk m = true) (h : c.length ≤ 1048576) : Fn Try.prog 70 [eMk m, eIs c] true (· = eB (key1 m c)) := by
  refine Fn.of_vcN 9 [.tmp 4] Try.func70 rfl rfl rfl rfl rfl (of_decide_eq_true rfl) ?_
  simp -dsimp -implicitDefEqProofs only [go_sem, ↓reduceIte, Nat.reduceEqDiff, Nat.reduceLT, Nat.reduceAdd, Nat.reduceMul, Nat.reduceLeDiff, Nat.le_refl, Int.natCast_zero, Int.toNat_natCast, Int.reduceToNat]
  repeat' first
    | (refine Br.intro (fun _ => ?_) (fun _ => ?_) <;> try simp -dsimp -implicitDefEqProofs only [go_sem, ↓reduceIte, Nat.reduceEqDiff, Nat.reduceLT, Nat.reduceAdd, Nat.reduceMul, Nat.reduceLeDiff, Nat.le_refl, Int.natCast_zero, Int.toNat_natCast, Int.reduceToNat, *])
    | (with_reducible refine And.intro ?_ ?_)
    | (refine sCallT_one (c_keyFault m c hm h) ?_; try simp -dsimp -implicitDefEqProofs only [go_sem, ↓reduceIte, Nat.reduceEqDiff, Nat.reduceLT, Nat.reduceAdd, Nat.reduceMul, Nat.reduceLeDiff, Nat.le_refl, Int.natCast_zero, Int.toNat_natCast, Int.reduceToNat, *])
  all_goals first | omega | (refine ⟨?_, ?_⟩ <;> omega) | rfl | (simp; done) | (simp_all [key1]; done) | (simp_all [key1]; omega) | (simp_all [key1]; split <;> simp_all <;> omega) | trace_state
theorem c_l04Keys (m : MkM) (ks : List (List Int)) (hm : isMk m = true) (h : ks.length ≤ 1048576) (h2 : ∀ x ∈ ks, x.length ≤ 1048576) : Fn Try.prog 35 [eMk m, eIss ks] true (· = eB (ks.all (key1 m) && decide ((ks.length : Int) ≤ 300))) := by
  refine Fn.of_vcN 22 [.tmp 4] Try.func35 rfl rfl rfl rfl rfl (of_decide_eq_true rfl) ?_
  simp -dsimp -implicitDefEqProofs only [go_sem, ↓reduceIte, Nat.reduceEqDiff, Nat.reduceLT, Nat.reduceAdd, Nat.reduceMul, Nat.reduceLeDiff, Nat.le_refl, Int.natCast_zero, Int.toNat_natCast, Int.reduceToNat]
  refine Later.up [1, 2] [8, 17] [] ks.length (fun i => (ks.take i).all (key1 m)) (fun i => [(5, eI i)]) (fun _ => []) (by simp) ?_ rfl (fun i hi hI => ?_) (fun hI => ?_)
  · simp -dsimp -implicitDefEqProofs only [go_sem, ↓reduceIte, Nat.reduceEqDiff, Nat.reduceLT, Nat.reduceAdd, Nat.reduceMul, Nat.reduceLeDiff, Nat.le_refl, Int.natCast_zero, Int.toNat_natCast, Int.reduceToNat]
  · have gi := get_some hi
    have li := lt_len hi
    have no : key1 m ks[i] = false → ks.all (key1 m) = false := fun h => all_no hi h
    have yes : key1 m ks[i] = true → (ks.take (i + 1)).all (key1 m) = true := fun h => by rw [all_take _ _ _ hi, hI, h]; rfl
    have yes' : (fault m ks[i] != 0) = false → (ks.take (i + 1)).all (key1 m) = true := fun h => yes (by simpa [key1] using h)
    have no' : (fault m ks[i] != 0) = true → ks.all (key1 m) = false := fun h => no (by simpa [key1] using h)
    have hc := c_l02Fault m ks[i] hm (h2 _ (List.getElem_mem hi))
    clear no yes hI
    simp -dsimp -implicitDefEqProofs only [pick_nil, pick_cons, look_nil, look_cons, dropB_nil, dropB_cons, inD_nil, inD_cons, inE_nil, inE_cons, or_t_l, or_f_l, Nat.reduceBEq, Nat.reduceDiv, Nat.reduceAdd, beq_self_eq_true, Bool.false_eq_true, Bool.or_false, ↓reduceIte, Nat.reduceEqDiff, List.cons_append, List.nil_append]
    simp -dsimp -implicitDefEqProofs only [go_sem, ↓reduceIte, Nat.reduceEqDiff, Nat.reduceLT, Nat.reduceAdd, Nat.reduceMul, Nat.reduceLeDiff, Nat.le_refl, Int.natCast_zero, Int.toNat_natCast, Int.reduceToNat, li, gi]
    repeat' first
      | (refine Br.intro (fun _ => ?_) (fun _ => ?_) <;> try simp -dsimp -implicitDefEqProofs only [go_sem, ↓reduceIte, Nat.reduceEqDiff, Nat.reduceLT, Nat.reduceAdd, Nat.reduceMul, Nat.reduceLeDiff, Nat.le_refl, Int.natCast_zero, Int.toNat_natCast, Int.reduceToNat, *])
      | (with_reducible refine And.intro ?_ ?_)
      | (refine Later.draw mixed rfl ?_; try simp -dsimp -implicitDefEqProofs only [go_sem, ↓reduceIte, Nat.reduceEqDiff, Nat.reduceLT, Nat.reduceAdd, Nat.reduceMul, Nat.reduceLeDiff, Nat.le_refl, Int.natCast_zero, Int.toNat_natCast, Int.reduceToNat, li, gi])
      | (refine sCallX_one (hc) ?_; try simp -dsimp -implicitDefEqProofs only [go_sem, ↓reduceIte, Nat.reduceEqDiff, Nat.reduceLT, Nat.reduceAdd, Nat.reduceMul, Nat.reduceLeDiff, Nat.le_refl, Int.natCast_zero, Int.toNat_natCast, Int.reduceToNat, *])
    all_goals first
      | (rw [no' (by assumption)]; rfl)
      | (exact yes' (by assumption))
      | (first | omega | (refine ⟨?_, ?_⟩ <;> omega) | (simp; done) | (simp; omega) | (refine ⟨?_, ?_⟩ <;> omega) | rfl | (simp; done) | (simp_all; done) | (simp_all; omega) | (exfalso; simp_all [bne]; done) | trace_state)
  · rw [List.take_length] at hI
    rw [hI]
    simp -dsimp -implicitDefEqProofs only [pick_nil, pick_cons, look_nil, look_cons, dropB_nil, dropB_cons, inD_nil, inD_cons, inE_nil, inE_cons, or_t_l, or_f_l, Nat.reduceBEq, Nat.reduceDiv, Nat.reduceAdd, beq_self_eq_true, Bool.false_eq_true, Bool.or_false, ↓reduceIte, Nat.reduceEqDiff, List.cons_append, List.nil_append]
    simp -dsimp -implicitDefEqProofs only [go_sem, ↓reduceIte, Nat.reduceEqDiff, Nat.reduceLT, Nat.reduceAdd, Nat.reduceMul, Nat.reduceLeDiff, Nat.le_refl, Int.natCast_zero, Int.toNat_natCast, Int.reduceToNat, nlt_len]
    all_goals (first | omega | (refine ⟨?_, ?_⟩ <;> omega) | (simp; done) | (simp; omega) | (refine ⟨?_, ?_⟩ <;> omega) | rfl | (simp; done) | (simp_all; done) | (simp_all; omega) | (exfalso; simp_all [bne]; done) | trace_state)
set_option maxHeartbeats 4000000 in
theorem c_areKeys (m : MkM) (ks : List (List Int)) (hm : isMk m = true) (h : ks.length ≤ 1048576) (h2 : ∀ x ∈ ks, x.length ≤ 1048576) : Fn Try.prog 41 [eMk m, eIss ks] true (· = eB (ks.all (key1 m))) := by
  refine Fn.of_vcN 9 [.tmp 4] Try.func41 rfl rfl rfl rfl rfl (of_decide_eq_true rfl) ?_
  have hyes : (∀ i (hi : i < ks.length), key1 m ks[i] = true) → ks.all (key1 m) = true := fun h => List.all_eq_true.2 fun x hx => by
    obtain ⟨i, hi, rfl⟩ := List.getElem_of_mem hx
    exact h i hi
  have hno : ∀ i (hi : i < ks.length), key1 m ks[i] = false → ks.all (key1 m) = false := fun i hi h => all_no hi h
  generalize ks.all (key1 m) = ok at hyes hno
  simp -dsimp -implicitDefEqProofs only [go_sem, ↓reduceIte, Nat.reduceEqDiff, Nat.reduceLT, Nat.reduceAdd, Nat.reduceMul, Nat.reduceLeDiff, Nat.le_refl, Int.natCast_zero, Int.toNat_natCast, Int.reduceToNat]
  ((repeat' (first | (refine Br.intro (fun _ => ?_) (fun _ => ?_) <;> try simp -dsimp -implicitDefEqProofs only [go_sem, ↓reduceIte, Nat.reduceEqDiff, Nat.reduceLT, Nat.reduceAdd, Nat.reduceMul, Nat.reduceLeDiff, Nat.le_refl, Int.natCast_zero, Int.toNat_natCast, Int.reduceToNat, *]) | (with_reducible refine And.intro ?_ ?_) | (refine Later.draw mixed rfl ?_; try simp -dsimp -implicitDefEqProofs only [go_sem, ↓reduceIte, Nat.reduceEqDiff, Nat.reduceLT, Nat.reduceAdd, Nat.reduceMul, Nat.reduceLeDiff, Nat.le_refl, Int.natCast_zero, Int.toNat_natCast, Int.reduceToNat, *]))); all_goals try (first | omega | (refine ⟨?_, ?_⟩ <;> omega) | (exact rfl) | (simp; done)))
  refine sCallT_inl 400000 9 [.tmp 4] Try.func68 rfl rfl rfl rfl rfl (by exact of_decide_eq_true rfl) ?_
  simp -dsimp -implicitDefEqProofs only [go_sem, ↓reduceIte, Nat.reduceEqDiff, Nat.reduceLT, Nat.reduceAdd, Nat.reduceMul, Nat.reduceLeDiff, Nat.le_refl, Int.natCast_zero, Int.toNat_natCast, Int.reduceToNat]
  refine sCallT_inl 410000 19 [.tmp 4] Try.func84 rfl rfl rfl rfl rfl (by exact of_decide_eq_true rfl) ?_
  simp -dsimp -implicitDefEqProofs only [go_sem, ↓reduceIte, Nat.reduceEqDiff, Nat.reduceLT, Nat.reduceAdd, Nat.reduceMul, Nat.reduceLeDiff, Nat.le_refl, Int.natCast_zero, Int.toNat_natCast, Int.reduceToNat]
  refine Later.up [0, 1, 7] [16] [] ks.length (fun i => ∀ j (hj : j < ks.length), j < i → key1 m ks[j] = true) (fun i => [(8, eI i)]) (fun _ => []) (fun j _ h => absurd h (Nat.not_lt_zero _)) ?_ rfl (fun i hi hI => ?_) (fun hI => ?_)
  · simp -dsimp -implicitDefEqProofs only [go_sem, ↓reduceIte, Nat.reduceEqDiff, Nat.reduceLT, Nat.reduceAdd, Nat.reduceMul, Nat.reduceLeDiff, Nat.le_refl, Int.natCast_zero, Int.toNat_natCast, Int.reduceToNat]
    all_goals first | (simp; done) | trace_state
  · have gi := get_some hi
    have li := lt_len hi
    have hc := c_isKey m ks[i] hm (h2 _ (List.getElem_mem hi))
    rcases hv : key1 m ks[i] with _ | _
    · rw [hv] at hc
      have hn := hno i hi hv
      clear hno hyes hI hv
      subst hn
      simp -dsimp -implicitDefEqProofs only [pick_nil, pick_cons, look_nil, look_cons, dropB_nil, dropB_cons, inD_nil, inD_cons, inE_nil, inE_cons, or_t_l, or_f_l, Nat.reduceBEq, Nat.reduceDiv, Nat.reduceAdd, beq_self_eq_true, Bool.false_eq_true, Bool.or_false, ↓reduceIte, Nat.reduceEqDiff, List.cons_append, List.nil_append]
      simp -dsimp -implicitDefEqProofs only [go_sem, ↓reduceIte, Nat.reduceEqDiff, Nat.reduceLT, Nat.reduceAdd, Nat.reduceMul, Nat.reduceLeDiff, Nat.le_refl, Int.natCast_zero, Int.toNat_natCast, Int.reduceToNat, gi, li]
      refine ⟨⟨by omega, by omega⟩, ?_⟩
      refine sCallT_inl 420000 8 [.tmp 3] Try.func69 rfl rfl rfl rfl rfl (by exact of_decide_eq_true rfl) ?_
      simp -dsimp -implicitDefEqProofs only [go_sem, ↓reduceIte, Nat.reduceEqDiff, Nat.reduceLT, Nat.reduceAdd, Nat.reduceMul, Nat.reduceLeDiff, Nat.le_refl, Int.natCast_zero, Int.toNat_natCast, Int.reduceToNat]
      repeat' first
        | (with_reducible refine And.intro ?_ ?_)
        | (refine sCallT_one (hc) ?_; try simp -dsimp -implicitDefEqProofs only [go_sem, ↓reduceIte, Nat.reduceEqDiff, Nat.reduceLT, Nat.reduceAdd, Nat.reduceMul, Nat.reduceLeDiff, Nat.le_refl, Int.natCast_zero, Int.toNat_natCast, Int.reduceToNat, *])
      ((repeat' (first | (refine Br.intro (fun _ => ?_) (fun _ => ?_) <;> try simp -dsimp -implicitDefEqProofs only [go_sem, ↓reduceIte, Nat.reduceEqDiff, Nat.reduceLT, Nat.reduceAdd, Nat.reduceMul, Nat.reduceLeDiff, Nat.le_refl, Int.natCast_zero, Int.toNat_natCast, Int.reduceToNat, *]) | (with_reducible refine And.intro ?_ ?_) | (refine Later.draw mixed rfl ?_; try simp -dsimp -implicitDefEqProofs only [go_sem, ↓reduceIte, Nat.reduceEqDiff, Nat.reduceLT, Nat.reduceAdd, Nat.reduceMul, Nat.reduceLeDiff, Nat.le_refl, Int.natCast_zero, Int.toNat_natCast, Int.reduceToNat, *]))); all_goals try (first | omega | (refine ⟨?_, ?_⟩ <;> omega) | (exact rfl) | (simp; done)))
      all_goals first
        | (rename_i h; exact absurd (of_decide_eq_false h) (by omega))
        | (first | omega | (refine ⟨?_, ?_⟩ <;> omega) | (simp; done) | (simp; omega) | (refine ⟨?_, ?_⟩ <;> omega) | rfl | (simp; done) | (simp_all; done) | (simp_all; omega) | (exfalso; simp_all [bne]; done) | trace_state)
    · rw [hv] at hc
      have hI' : ∀ j (hj : j < ks.length), j < i + 1 → key1 m ks[j] = true := fun j hj h => by
        by_cases hji : j = i
        · subst hji; exact hv
        · exact hI j hj (by omega)
      clear hno hyes hI hv
      simp -dsimp -implicitDefEqProofs only [pick_nil, pick_cons, look_nil, look_cons, dropB_nil, dropB_cons, inD_nil, inD_cons, inE_nil, inE_cons, or_t_l, or_f_l, Nat.reduceBEq, Nat.reduceDiv, Nat.reduceAdd, beq_self_eq_true, Bool.false_eq_true, Bool.or_false, ↓reduceIte, Nat.reduceEqDiff, List.cons_append, List.nil_append]
      simp -dsimp -implicitDefEqProofs only [go_sem, ↓reduceIte, Nat.reduceEqDiff, Nat.reduceLT, Nat.reduceAdd, Nat.reduceMul, Nat.reduceLeDiff, Nat.le_refl, Int.natCast_zero, Int.toNat_natCast, Int.reduceToNat, gi, li]
      refine ⟨⟨by omega, by omega⟩, ?_⟩
      refine sCallT_inl 420000 8 [.tmp 3] Try.func69 rfl rfl rfl rfl rfl (by exact of_decide_eq_true rfl) ?_
      simp -dsimp -implicitDefEqProofs only [go_sem, ↓reduceIte, Nat.reduceEqDiff, Nat.reduceLT, Nat.reduceAdd, Nat.reduceMul, Nat.reduceLeDiff, Nat.le_refl, Int.natCast_zero, Int.toNat_natCast, Int.reduceToNat]
      repeat' first
        | (with_reducible refine And.intro ?_ ?_)
        | (refine sCallT_one (hc) ?_; try simp -dsimp -implicitDefEqProofs only [go_sem, ↓reduceIte, Nat.reduceEqDiff, Nat.reduceLT, Nat.reduceAdd, Nat.reduceMul, Nat.reduceLeDiff, Nat.le_refl, Int.natCast_zero, Int.toNat_natCast, Int.reduceToNat, *])
      ((repeat' (first | (refine Br.intro (fun _ => ?_) (fun _ => ?_) <;> try simp -dsimp -implicitDefEqProofs only [go_sem, ↓reduceIte, Nat.reduceEqDiff, Nat.reduceLT, Nat.reduceAdd, Nat.reduceMul, Nat.reduceLeDiff, Nat.le_refl, Int.natCast_zero, Int.toNat_natCast, Int.reduceToNat, *]) | (with_reducible refine And.intro ?_ ?_) | (refine Later.draw mixed rfl ?_; try simp -dsimp -implicitDefEqProofs only [go_sem, ↓reduceIte, Nat.reduceEqDiff, Nat.reduceLT, Nat.reduceAdd, Nat.reduceMul, Nat.reduceLeDiff, Nat.le_refl, Int.natCast_zero, Int.toNat_natCast, Int.reduceToNat, *]))); all_goals try (first | omega | (refine ⟨?_, ?_⟩ <;> omega) | (exact rfl) | (simp; done)))
      all_goals first
        | exact hI'
        | (first | omega | (refine ⟨?_, ?_⟩ <;> omega) | (simp; done) | (simp; omega) | (refine ⟨?_, ?_⟩ <;> omega) | rfl | (simp; done) | (simp_all; done) | (simp_all; omega) | (exfalso; simp_all [bne]; done) | trace_state)
  · have hn := hyes fun j hj => hI j hj hj
    clear hno hyes hI
    subst hn
    simp -dsimp -implicitDefEqProofs only [pick_nil, pick_cons, look_nil, look_cons, dropB_nil, dropB_cons, inD_nil, inD_cons, inE_nil, inE_cons, or_t_l, or_f_l, Nat.reduceBEq, Nat.reduceDiv, Nat.reduceAdd, beq_self_eq_true, Bool.false_eq_true, Bool.or_false, ↓reduceIte, Nat.reduceEqDiff, List.cons_append, List.nil_append]
    simp -dsimp -implicitDefEqProofs only [go_sem, ↓reduceIte, Nat.reduceEqDiff, Nat.reduceLT, Nat.reduceAdd, Nat.reduceMul, Nat.reduceLeDiff, Nat.le_refl, Int.natCast_zero, Int.toNat_natCast, Int.reduceToNat, nlt_len]
    ((repeat' (first | (refine Br.intro (fun _ => ?_) (fun _ => ?_) <;> try simp -dsimp -implicitDefEqProofs only [go_sem, ↓reduceIte, Nat.reduceEqDiff, Nat.reduceLT, Nat.reduceAdd, Nat.reduceMul, Nat.reduceLeDiff, Nat.le_refl, Int.natCast_zero, Int.toNat_natCast, Int.reduceToNat, *]) | (with_reducible refine And.intro ?_ ?_) | (refine Later.draw mixed rfl ?_; try simp -dsimp -implicitDefEqProofs only [go_sem, ↓reduceIte, Nat.reduceEqDiff, Nat.reduceLT, Nat.reduceAdd, Nat.reduceMul, Nat.reduceLeDiff, Nat.le_refl, Int.natCast_zero, Int.toNat_natCast, Int.reduceToNat, *]))); all_goals try (first | omega | (refine ⟨?_, ?_⟩ <;> omega) | (exact rfl) | (simp; done)))
    all_goals first
      | (rename_i h; exact absurd h (by decide))
      | (first | omega | (refine ⟨?_, ?_⟩ <;> omega) | (simp; done) | (simp; omega) | (refine ⟨?_, ?_⟩ <;> omega) | rfl | (simp; done) | (simp_all; done) | (simp_all; omega) | (exfalso; simp_all [bne]; done) | trace_state)
def isDesk (m : MkM) (a k : List (List Int)) : Bool := isMk m && (((a.length : Int) == 0) || isTb a) && ((k.length : Int) == (a.length : Int)) && k.all (key1 m)
abbrev eDk (m : MkM) (a k : List (List Int)) : AV := .agg [eI m.chambers, eI m.depths, eI m.step, eI m.same, eI m.least, eIss a, eIss k]
theorem c_iIsDesk (m : MkM) (a k : List (List Int)) (h : a.length ≤ 1048576) (h2 : ∀ x ∈ a, x.length ≤ 1048576) (h3 : k.length ≤ 1048576) (h4 : ∀ x ∈ k, x.length ≤ 1048576) : Fn Try.prog 9 [eDk m a k] true (· = eB (isDesk m a k)) := by
  refine Fn.of_vcN 33 [.tmp 2] Try.func9 rfl rfl rfl rfl rfl (of_decide_eq_true rfl) ?_
  rcases hm : isMk m with _ | _
  · have hF : isDesk m a k = false := by rw [isDesk, hm]; rfl
    rw [hF]
    simp -dsimp -implicitDefEqProofs only [go_sem, ↓reduceIte, Nat.reduceEqDiff, Nat.reduceLT, Nat.reduceAdd, Nat.reduceMul, Nat.reduceLeDiff, Nat.le_refl, Int.natCast_zero, Int.toNat_natCast, Int.reduceToNat]
    repeat' first
      | (refine Br.intro (fun _ => ?_) (fun _ => ?_) <;> try simp -dsimp -implicitDefEqProofs only [go_sem, ↓reduceIte, Nat.reduceEqDiff, Nat.reduceLT, Nat.reduceAdd, Nat.reduceMul, Nat.reduceLeDiff, Nat.le_refl, Int.natCast_zero, Int.toNat_natCast, Int.reduceToNat, *])
      | (with_reducible refine And.intro ?_ ?_)
      | (refine sCallT_one (c_iIsMaker m) ?_; try simp -dsimp -implicitDefEqProofs only [go_sem, ↓reduceIte, Nat.reduceEqDiff, Nat.reduceLT, Nat.reduceAdd, Nat.reduceMul, Nat.reduceLeDiff, Nat.le_refl, Int.natCast_zero, Int.toNat_natCast, Int.reduceToNat, *])
    all_goals (first | omega | (refine ⟨?_, ?_⟩ <;> omega) | (simp; done) | (simp; omega) | (refine ⟨?_, ?_⟩ <;> omega) | rfl | (simp; done) | (simp_all; done) | (simp_all; omega) | (exfalso; simp_all [bne]; done) | trace_state)
  · have hF : isDesk m a k = ((((a.length : Int) == 0) || isTb a) && ((k.length : Int) == (a.length : Int)) && k.all (key1 m)) := by rw [isDesk, hm]; rfl
    rw [hF]
    clear hF
    simp -dsimp -implicitDefEqProofs only [go_sem, ↓reduceIte, Nat.reduceEqDiff, Nat.reduceLT, Nat.reduceAdd, Nat.reduceMul, Nat.reduceLeDiff, Nat.le_refl, Int.natCast_zero, Int.toNat_natCast, Int.reduceToNat]
    repeat' first
      | (refine Br.intro (fun _ => ?_) (fun _ => ?_) <;> try simp -dsimp -implicitDefEqProofs only [go_sem, ↓reduceIte, Nat.reduceEqDiff, Nat.reduceLT, Nat.reduceAdd, Nat.reduceMul, Nat.reduceLeDiff, Nat.le_refl, Int.natCast_zero, Int.toNat_natCast, Int.reduceToNat, *])
      | (with_reducible refine And.intro ?_ ?_)
      | (refine sCallT_one (c_iIsMaker m) ?_; try simp -dsimp -implicitDefEqProofs only [go_sem, ↓reduceIte, Nat.reduceEqDiff, Nat.reduceLT, Nat.reduceAdd, Nat.reduceMul, Nat.reduceLeDiff, Nat.le_refl, Int.natCast_zero, Int.toNat_natCast, Int.reduceToNat, *])
      | (refine sCallT_one (c_iIsTable a h h2) ?_; try simp -dsimp -implicitDefEqProofs only [go_sem, ↓reduceIte, Nat.reduceEqDiff, Nat.reduceLT, Nat.reduceAdd, Nat.reduceMul, Nat.reduceLeDiff, Nat.le_refl, Int.natCast_zero, Int.toNat_natCast, Int.reduceToNat, *])
      | (refine sCallT_one (c_areKeys m k hm h3 h4) ?_; try simp -dsimp -implicitDefEqProofs only [go_sem, ↓reduceIte, Nat.reduceEqDiff, Nat.reduceLT, Nat.reduceAdd, Nat.reduceMul, Nat.reduceLeDiff, Nat.le_refl, Int.natCast_zero, Int.toNat_natCast, Int.reduceToNat, *])
    all_goals (first | omega | (refine ⟨?_, ?_⟩ <;> omega) | (simp; done) | (simp; omega) | (refine ⟨?_, ?_⟩ <;> omega) | rfl | (simp; done) | (simp_all; done) | (simp_all; omega) | (exfalso; simp_all [bne]; done) | trace_state)
theorem c_sIsDesk (m : MkM) (a k : List (List Int)) (h : a.length ≤ 1048576) (h2 : ∀ x ∈ a, x.length ≤ 1048576) (h3 : k.length ≤ 1048576) (h4 : ∀ x ∈ k, x.length ≤ 1048576) : Fn Try.prog 7 [eDk m a k] true (· = eB (isDesk m a k)) := by
  refine Fn.of_vcN 33 [.tmp 2] Try.func7 rfl rfl rfl rfl rfl (of_decide_eq_true rfl) ?_
  rcases hm : isMk m with _ | _
  · have hF : isDesk m a k = false := by rw [isDesk, hm]; rfl
    rw [hF]
    simp -dsimp -implicitDefEqProofs only [go_sem, ↓reduceIte, Nat.reduceEqDiff, Nat.reduceLT, Nat.reduceAdd, Nat.reduceMul, Nat.reduceLeDiff, Nat.le_refl, Int.natCast_zero, Int.toNat_natCast, Int.reduceToNat]
    repeat' first
      | (refine Br.intro (fun _ => ?_) (fun _ => ?_) <;> try simp -dsimp -implicitDefEqProofs only [go_sem, ↓reduceIte, Nat.reduceEqDiff, Nat.reduceLT, Nat.reduceAdd, Nat.reduceMul, Nat.reduceLeDiff, Nat.le_refl, Int.natCast_zero, Int.toNat_natCast, Int.reduceToNat, *])
      | (with_reducible refine And.intro ?_ ?_)
      | (refine sCallT_one (c_sIsMaker m) ?_; try simp -dsimp -implicitDefEqProofs only [go_sem, ↓reduceIte, Nat.reduceEqDiff, Nat.reduceLT, Nat.reduceAdd, Nat.reduceMul, Nat.reduceLeDiff, Nat.le_refl, Int.natCast_zero, Int.toNat_natCast, Int.reduceToNat, *])
    all_goals (first | omega | (refine ⟨?_, ?_⟩ <;> omega) | (simp; done) | (simp; omega) | (refine ⟨?_, ?_⟩ <;> omega) | rfl | (simp; done) | (simp_all; done) | (simp_all; omega) | (exfalso; simp_all [bne]; done) | trace_state)
  · have hF : isDesk m a k = ((((a.length : Int) == 0) || isTb a) && ((k.length : Int) == (a.length : Int)) && k.all (key1 m)) := by rw [isDesk, hm]; rfl
    rw [hF]
    have hq : isTb a = true → a.length ≤ 10 := fun h => (isTb_num h).2.1
    clear hF
    simp -dsimp -implicitDefEqProofs only [go_sem, ↓reduceIte, Nat.reduceEqDiff, Nat.reduceLT, Nat.reduceAdd, Nat.reduceMul, Nat.reduceLeDiff, Nat.le_refl, Int.natCast_zero, Int.toNat_natCast, Int.reduceToNat]
    repeat' first
      | (refine Br.intro (fun _ => ?_) (fun _ => ?_) <;> try simp -dsimp -implicitDefEqProofs only [go_sem, ↓reduceIte, Nat.reduceEqDiff, Nat.reduceLT, Nat.reduceAdd, Nat.reduceMul, Nat.reduceLeDiff, Nat.le_refl, Int.natCast_zero, Int.toNat_natCast, Int.reduceToNat, *])
      | (with_reducible refine And.intro ?_ ?_)
      | (refine sCallT_one (c_sIsMaker m) ?_; try simp -dsimp -implicitDefEqProofs only [go_sem, ↓reduceIte, Nat.reduceEqDiff, Nat.reduceLT, Nat.reduceAdd, Nat.reduceMul, Nat.reduceLeDiff, Nat.le_refl, Int.natCast_zero, Int.toNat_natCast, Int.reduceToNat, *])
      | (refine sCallT_one (c_sIsTable a h h2) ?_; try simp -dsimp -implicitDefEqProofs only [go_sem, ↓reduceIte, Nat.reduceEqDiff, Nat.reduceLT, Nat.reduceAdd, Nat.reduceMul, Nat.reduceLeDiff, Nat.le_refl, Int.natCast_zero, Int.toNat_natCast, Int.reduceToNat, *])
      | (refine sCallT_one (c_l04Keys m k hm h3 h4) ?_; try simp -dsimp -implicitDefEqProofs only [go_sem, ↓reduceIte, Nat.reduceEqDiff, Nat.reduceLT, Nat.reduceAdd, Nat.reduceMul, Nat.reduceLeDiff, Nat.le_refl, Int.natCast_zero, Int.toNat_natCast, Int.reduceToNat, *])
    all_goals first
      | (rename_i hA hB
         have hA' : (k.length : Int) = a.length := by simpa [bne] using hA
         rcases hall : k.all (key1 m) with _ | _
         · simp
         · rw [hall, Bool.true_and] at hB
           have hB' : ¬ (k.length : Int) ≤ 300 := by simpa using hB
           have h1 : isTb a = false := by rw [Bool.eq_false_iff]; intro hh; have := hq hh; omega
           have h0 : ((a.length : Int) == 0) = false := by rw [beq_eq_false_iff_ne]; omega
           rw [h1, h0]; rfl)
      | (first | omega | (refine ⟨?_, ?_⟩ <;> omega) | (simp; done) | (simp; omega) | (refine ⟨?_, ?_⟩ <;> omega) | rfl | (simp; done) | (simp_all; done) | (simp_all; omega) | (exfalso; simp_all [bne]; done) | trace_state)
end Go.Vc
