/-
  Contracts of the functions on picking: many picks, by the program.
-/
import Derived.Test.YtponkoaomcgohaaPick6
set_option linter.unusedVariables false
set_option linter.unusedSimpArgs false
set_option linter.unnecessarySimpa false
namespace Go.Vc
open Go.Proofs
set_option maxRecDepth 100000
set_option maxHeartbeats 4000000 in
theorem c_iPickAll (m : MkM) (l : List (List Int)) (o : List Int) (ps : List PkM) (h : l.length ≤ 1048576) (h2 : ∀ x ∈ l, x.length ≤ 1048576) (h3 : o.length ≤ 1048576) (h5 : ps.length ≤ 1048576) : Fn Try.prog 40 [eMk m, eLk l, eIs o, ePs ps] true (· = .tup [eIs (pickAll m l o ps).1, eI (pickAll m l o ps).2.1, eI (pickAll m l o ps).2.2]) := by
  refine Fn.of_vcN 35 [.tmp 8, .tmp 9, .tmp 10] Try.func40 rfl rfl rfl rfl rfl (of_decide_eq_true rfl) ?_
  by_cases hb : pksCode m l o [] ps = 0
  rotate_left
  · have hF : pickAll m l o ps = ([], 0, pksCode m l o [] ps) := by rw [pickAll, if_neg hb]
    rw [hF]
    clear hF
    simp -dsimp -implicitDefEqProofs only [go_sem, ↓reduceIte, Nat.reduceEqDiff, Nat.reduceLT, Nat.reduceAdd, Nat.reduceMul, Nat.reduceLeDiff, Nat.le_refl, Int.natCast_zero, Int.toNat_natCast, Int.reduceToNat]
    repeat' first
      | (refine Br.intro (fun _ => ?_) (fun _ => ?_) <;> try simp -dsimp -implicitDefEqProofs only [go_sem, ↓reduceIte, Nat.reduceEqDiff, Nat.reduceLT, Nat.reduceAdd, Nat.reduceMul, Nat.reduceLeDiff, Nat.le_refl, Int.natCast_zero, Int.toNat_natCast, Int.reduceToNat, *])
      | (with_reducible refine And.intro ?_ ?_)
      | (refine sCallT_one (c_iCodeP m l o ps h h2 h3 h5) ?_; try simp -dsimp -implicitDefEqProofs only [go_sem, ↓reduceIte, Nat.reduceEqDiff, Nat.reduceLT, Nat.reduceAdd, Nat.reduceMul, Nat.reduceLeDiff, Nat.le_refl, Int.natCast_zero, Int.toNat_natCast, Int.reduceToNat, *])
    all_goals first
      | omega
      | (simp_all; done)
      | trace_state
  obtain ⟨hb1, hp⟩ := pksCode_zero hb
  obtain ⟨k1, k2, k3⟩ := pkCode_zero hb1
  have pk := Pk.of k1 k2
  have n6 := pk.n6
  have hvc := vc_pickLock m l o ps pk h2 hp h5
  have hn := runS_n l o ps ps.length
  have hmd := madeS_le l o ps
  have hcu := runS_cuts l o ps ps.length
  have hcode := c_iCodeP m l o ps h h2 h3 h5
  rw [hb] at hcode
  have hF : pickAll m l o ps = (rowsL (o.take (runS l o ps ps.length).n), if (runS l o ps ps.length).n < o.length then -1 else (madeS l o ps : Int), 0) := by rw [pickAll, if_pos hb]
  generalize runS l o ps ps.length = R at *
  generalize madeS l o ps = M at *
  rcases Nat.lt_or_ge R.n o.length with hlt | hge
  · have hd : ((R.n : Int) == o.length) = false := by simp; omega
    rw [if_pos hlt] at hF
    rw [hF]
    clear hF
    clear hb hb1 k1 k2 k3 pk hp
    simp -dsimp -implicitDefEqProofs only [go_sem, ↓reduceIte, Nat.reduceEqDiff, Nat.reduceLT, Nat.reduceAdd, Nat.reduceMul, Nat.reduceLeDiff, Nat.le_refl, Int.natCast_zero, Int.toNat_natCast, Int.reduceToNat]
    repeat' first
      | (refine Br.intro (fun _ => ?_) (fun _ => ?_) <;> try simp -dsimp -implicitDefEqProofs only [go_sem, ↓reduceIte, Nat.reduceEqDiff, Nat.reduceLT, Nat.reduceAdd, Nat.reduceMul, Nat.reduceLeDiff, Nat.le_refl, Int.natCast_zero, Int.toNat_natCast, Int.reduceToNat, *])
      | (with_reducible refine And.intro ?_ ?_)
      | (refine sCallT_one (hcode) ?_; try simp -dsimp -implicitDefEqProofs only [go_sem, ↓reduceIte, Nat.reduceEqDiff, Nat.reduceLT, Nat.reduceAdd, Nat.reduceMul, Nat.reduceLeDiff, Nat.le_refl, Int.natCast_zero, Int.toNat_natCast, Int.reduceToNat, *])
    all_goals try (first | omega | (simp; done))
    refine sCallT_inl 700000 35 [.tmp 6, .tmp 7] Try.func64 rfl rfl rfl rfl rfl (by exact of_decide_eq_true rfl) ⟨?_, ?_⟩
    · simp -dsimp -implicitDefEqProofs only [go_sem, ↓reduceIte, Nat.reduceEqDiff, Nat.reduceLT, Nat.reduceAdd, Nat.reduceMul, Nat.reduceLeDiff, Nat.le_refl, Int.natCast_zero, Int.toNat_natCast, Int.reduceToNat]
    simp -dsimp -implicitDefEqProofs only [lowP_nil, lowP_cons, inF_nil, inF_cons, rnsM_nil, rnsM_cons, rnsL_nil, rnsL_cons, rnsA_nil, rnsA_cons, rl_eq, rnA_ref, rnA_ptr, rnA_agg, rnA_arr, rnA_val, rnA_e0, rnL_nil, rnL_cons, rnB_box, rnB_row, rnB_gone, rnM_nil, rnM_cons, Nat.reduceLT, decide_true, decide_false, Bool.true_and, Bool.not_false, Bool.not_true, Bool.and_false, Nat.reduceBEq, Bool.or_false, beq_self_eq_true, Bool.true_or, ↓reduceIte, Nat.reduceEqDiff, Nat.reduceAdd, Bool.and_true]
    refine hvc _ ?_ ?_ _ rfl
    · simp -dsimp -implicitDefEqProofs only [go_sem, ↓reduceIte, Nat.reduceEqDiff, Nat.reduceLT, Nat.reduceAdd, Nat.reduceMul, Nat.reduceLeDiff, Nat.le_refl, Int.natCast_zero, Int.toNat_natCast, Int.reduceToNat]
      refine sCallT_inl 710000 13 [.tmp 2] Try.func56 rfl rfl rfl rfl rfl (by exact of_decide_eq_true rfl) ?_
      simp -dsimp -implicitDefEqProofs only [go_sem, ↓reduceIte, Nat.reduceEqDiff, Nat.reduceLT, Nat.reduceAdd, Nat.reduceMul, Nat.reduceLeDiff, Nat.le_refl, Int.natCast_zero, Int.toNat_natCast, Int.reduceToNat, hd]
      (repeat' (first | (refine Br.intro (fun _ => ?_) (fun _ => ?_) <;> try simp -dsimp -implicitDefEqProofs only [go_sem, ↓reduceIte, Nat.reduceEqDiff, Nat.reduceLT, Nat.reduceAdd, Nat.reduceMul, Nat.reduceLeDiff, Nat.le_refl, Int.natCast_zero, Int.toNat_natCast, Int.reduceToNat, *]) | (with_reducible refine And.intro ?_ ?_) | (refine Later.draw mixed rfl ?_; try simp -dsimp -implicitDefEqProofs only [go_sem, ↓reduceIte, Nat.reduceEqDiff, Nat.reduceLT, Nat.reduceAdd, Nat.reduceMul, Nat.reduceLeDiff, Nat.le_refl, Int.natCast_zero, Int.toNat_natCast, Int.reduceToNat, *])))
      all_goals try (first | omega | (exact rfl) | (rw [← hcu, take_map_len]; done) | (simp; done) | (simp [hcu]; done))
      refine sCallT_inl 720000 13 [.tmp 2] Try.func61 rfl rfl rfl rfl rfl (by exact of_decide_eq_true rfl) ?_
      simp -dsimp -implicitDefEqProofs only [go_sem, ↓reduceIte, Nat.reduceEqDiff, Nat.reduceLT, Nat.reduceAdd, Nat.reduceMul, Nat.reduceLeDiff, Nat.le_refl, Int.natCast_zero, Int.toNat_natCast, Int.reduceToNat]
      (repeat' (first | (refine Br.intro (fun _ => ?_) (fun _ => ?_) <;> try simp -dsimp -implicitDefEqProofs only [go_sem, ↓reduceIte, Nat.reduceEqDiff, Nat.reduceLT, Nat.reduceAdd, Nat.reduceMul, Nat.reduceLeDiff, Nat.le_refl, Int.natCast_zero, Int.toNat_natCast, Int.reduceToNat, *]) | (with_reducible refine And.intro ?_ ?_) | (refine Later.draw mixed rfl ?_; try simp -dsimp -implicitDefEqProofs only [go_sem, ↓reduceIte, Nat.reduceEqDiff, Nat.reduceLT, Nat.reduceAdd, Nat.reduceMul, Nat.reduceLeDiff, Nat.le_refl, Int.natCast_zero, Int.toNat_natCast, Int.reduceToNat, *]) | (rw [← List.map_take]; refine sCallX_one (c_rowsOf (o.take R.n) (by simp; omega)) ?_; try simp -dsimp -implicitDefEqProofs only [go_sem, ↓reduceIte, Nat.reduceEqDiff, Nat.reduceLT, Nat.reduceAdd, Nat.reduceMul, Nat.reduceLeDiff, Nat.le_refl, Int.natCast_zero, Int.toNat_natCast, Int.reduceToNat, *])))
      all_goals first
        | omega
        | (exact rfl)
        | (refine ⟨?_, ?_⟩ <;> omega)
        | (rw [← hcu, take_map_len]; done)
        | (simp; done)
        | (simp_all; done)
        | trace_state
    · intro p
      simp -dsimp -implicitDefEqProofs only [go_sem, ↓reduceIte, Nat.reduceEqDiff, Nat.reduceLT, Nat.reduceAdd, Nat.reduceMul, Nat.reduceLeDiff, Nat.le_refl, Int.natCast_zero, Int.toNat_natCast, Int.reduceToNat]
      refine sCallT_inl 710000 13 [.tmp 2] Try.func56 rfl rfl rfl rfl rfl (by exact of_decide_eq_true rfl) ?_
      simp -dsimp -implicitDefEqProofs only [go_sem, ↓reduceIte, Nat.reduceEqDiff, Nat.reduceLT, Nat.reduceAdd, Nat.reduceMul, Nat.reduceLeDiff, Nat.le_refl, Int.natCast_zero, Int.toNat_natCast, Int.reduceToNat, hd]
      (repeat' (first | (refine Br.intro (fun _ => ?_) (fun _ => ?_) <;> try simp -dsimp -implicitDefEqProofs only [go_sem, ↓reduceIte, Nat.reduceEqDiff, Nat.reduceLT, Nat.reduceAdd, Nat.reduceMul, Nat.reduceLeDiff, Nat.le_refl, Int.natCast_zero, Int.toNat_natCast, Int.reduceToNat, *]) | (with_reducible refine And.intro ?_ ?_) | (refine Later.draw mixed rfl ?_; try simp -dsimp -implicitDefEqProofs only [go_sem, ↓reduceIte, Nat.reduceEqDiff, Nat.reduceLT, Nat.reduceAdd, Nat.reduceMul, Nat.reduceLeDiff, Nat.le_refl, Int.natCast_zero, Int.toNat_natCast, Int.reduceToNat, *])))
      all_goals try (first | omega | (exact rfl) | (rw [← hcu, take_map_len]; done) | (simp; done) | (simp [hcu]; done))
      refine sCallT_inl 720000 13 [.tmp 2] Try.func61 rfl rfl rfl rfl rfl (by exact of_decide_eq_true rfl) ?_
      simp -dsimp -implicitDefEqProofs only [go_sem, ↓reduceIte, Nat.reduceEqDiff, Nat.reduceLT, Nat.reduceAdd, Nat.reduceMul, Nat.reduceLeDiff, Nat.le_refl, Int.natCast_zero, Int.toNat_natCast, Int.reduceToNat]
      (repeat' (first | (refine Br.intro (fun _ => ?_) (fun _ => ?_) <;> try simp -dsimp -implicitDefEqProofs only [go_sem, ↓reduceIte, Nat.reduceEqDiff, Nat.reduceLT, Nat.reduceAdd, Nat.reduceMul, Nat.reduceLeDiff, Nat.le_refl, Int.natCast_zero, Int.toNat_natCast, Int.reduceToNat, *]) | (with_reducible refine And.intro ?_ ?_) | (refine Later.draw mixed rfl ?_; try simp -dsimp -implicitDefEqProofs only [go_sem, ↓reduceIte, Nat.reduceEqDiff, Nat.reduceLT, Nat.reduceAdd, Nat.reduceMul, Nat.reduceLeDiff, Nat.le_refl, Int.natCast_zero, Int.toNat_natCast, Int.reduceToNat, *]) | (rw [← List.map_take]; refine sCallX_one (c_rowsOf (o.take R.n) (by simp; omega)) ?_; try simp -dsimp -implicitDefEqProofs only [go_sem, ↓reduceIte, Nat.reduceEqDiff, Nat.reduceLT, Nat.reduceAdd, Nat.reduceMul, Nat.reduceLeDiff, Nat.le_refl, Int.natCast_zero, Int.toNat_natCast, Int.reduceToNat, *])))
      all_goals first
        | omega
        | (exact rfl)
        | (refine ⟨?_, ?_⟩ <;> omega)
        | (rw [← hcu, take_map_len]; done)
        | (simp; done)
        | (simp_all; done)
        | trace_state
  · have hd : ((R.n : Int) == o.length) = true := by simp; omega
    rw [if_neg (by omega)] at hF
    rw [hF]
    clear hF
    clear hb hb1 k1 k2 k3 pk hp
    simp -dsimp -implicitDefEqProofs only [go_sem, ↓reduceIte, Nat.reduceEqDiff, Nat.reduceLT, Nat.reduceAdd, Nat.reduceMul, Nat.reduceLeDiff, Nat.le_refl, Int.natCast_zero, Int.toNat_natCast, Int.reduceToNat]
    repeat' first
      | (refine Br.intro (fun _ => ?_) (fun _ => ?_) <;> try simp -dsimp -implicitDefEqProofs only [go_sem, ↓reduceIte, Nat.reduceEqDiff, Nat.reduceLT, Nat.reduceAdd, Nat.reduceMul, Nat.reduceLeDiff, Nat.le_refl, Int.natCast_zero, Int.toNat_natCast, Int.reduceToNat, *])
      | (with_reducible refine And.intro ?_ ?_)
      | (refine sCallT_one (hcode) ?_; try simp -dsimp -implicitDefEqProofs only [go_sem, ↓reduceIte, Nat.reduceEqDiff, Nat.reduceLT, Nat.reduceAdd, Nat.reduceMul, Nat.reduceLeDiff, Nat.le_refl, Int.natCast_zero, Int.toNat_natCast, Int.reduceToNat, *])
    all_goals try (first | omega | (simp; done))
    refine sCallT_inl 700000 35 [.tmp 6, .tmp 7] Try.func64 rfl rfl rfl rfl rfl (by exact of_decide_eq_true rfl) ⟨?_, ?_⟩
    · simp -dsimp -implicitDefEqProofs only [go_sem, ↓reduceIte, Nat.reduceEqDiff, Nat.reduceLT, Nat.reduceAdd, Nat.reduceMul, Nat.reduceLeDiff, Nat.le_refl, Int.natCast_zero, Int.toNat_natCast, Int.reduceToNat]
    simp -dsimp -implicitDefEqProofs only [lowP_nil, lowP_cons, inF_nil, inF_cons, rnsM_nil, rnsM_cons, rnsL_nil, rnsL_cons, rnsA_nil, rnsA_cons, rl_eq, rnA_ref, rnA_ptr, rnA_agg, rnA_arr, rnA_val, rnA_e0, rnL_nil, rnL_cons, rnB_box, rnB_row, rnB_gone, rnM_nil, rnM_cons, Nat.reduceLT, decide_true, decide_false, Bool.true_and, Bool.not_false, Bool.not_true, Bool.and_false, Nat.reduceBEq, Bool.or_false, beq_self_eq_true, Bool.true_or, ↓reduceIte, Nat.reduceEqDiff, Nat.reduceAdd, Bool.and_true]
    refine hvc _ ?_ ?_ _ rfl
    · simp -dsimp -implicitDefEqProofs only [go_sem, ↓reduceIte, Nat.reduceEqDiff, Nat.reduceLT, Nat.reduceAdd, Nat.reduceMul, Nat.reduceLeDiff, Nat.le_refl, Int.natCast_zero, Int.toNat_natCast, Int.reduceToNat]
      refine sCallT_inl 710000 13 [.tmp 2] Try.func56 rfl rfl rfl rfl rfl (by exact of_decide_eq_true rfl) ?_
      simp -dsimp -implicitDefEqProofs only [go_sem, ↓reduceIte, Nat.reduceEqDiff, Nat.reduceLT, Nat.reduceAdd, Nat.reduceMul, Nat.reduceLeDiff, Nat.le_refl, Int.natCast_zero, Int.toNat_natCast, Int.reduceToNat, hd]
      (repeat' (first | (refine Br.intro (fun _ => ?_) (fun _ => ?_) <;> try simp -dsimp -implicitDefEqProofs only [go_sem, ↓reduceIte, Nat.reduceEqDiff, Nat.reduceLT, Nat.reduceAdd, Nat.reduceMul, Nat.reduceLeDiff, Nat.le_refl, Int.natCast_zero, Int.toNat_natCast, Int.reduceToNat, *]) | (with_reducible refine And.intro ?_ ?_) | (refine Later.draw mixed rfl ?_; try simp -dsimp -implicitDefEqProofs only [go_sem, ↓reduceIte, Nat.reduceEqDiff, Nat.reduceLT, Nat.reduceAdd, Nat.reduceMul, Nat.reduceLeDiff, Nat.le_refl, Int.natCast_zero, Int.toNat_natCast, Int.reduceToNat, *])))
      all_goals try (first | omega | (exact rfl) | (rw [← hcu, take_map_len]; done) | (simp; done) | (simp [hcu]; done))
      refine sCallT_inl 720000 13 [.tmp 2] Try.func61 rfl rfl rfl rfl rfl (by exact of_decide_eq_true rfl) ?_
      simp -dsimp -implicitDefEqProofs only [go_sem, ↓reduceIte, Nat.reduceEqDiff, Nat.reduceLT, Nat.reduceAdd, Nat.reduceMul, Nat.reduceLeDiff, Nat.le_refl, Int.natCast_zero, Int.toNat_natCast, Int.reduceToNat]
      (repeat' (first | (refine Br.intro (fun _ => ?_) (fun _ => ?_) <;> try simp -dsimp -implicitDefEqProofs only [go_sem, ↓reduceIte, Nat.reduceEqDiff, Nat.reduceLT, Nat.reduceAdd, Nat.reduceMul, Nat.reduceLeDiff, Nat.le_refl, Int.natCast_zero, Int.toNat_natCast, Int.reduceToNat, *]) | (with_reducible refine And.intro ?_ ?_) | (refine Later.draw mixed rfl ?_; try simp -dsimp -implicitDefEqProofs only [go_sem, ↓reduceIte, Nat.reduceEqDiff, Nat.reduceLT, Nat.reduceAdd, Nat.reduceMul, Nat.reduceLeDiff, Nat.le_refl, Int.natCast_zero, Int.toNat_natCast, Int.reduceToNat, *]) | (rw [← List.map_take]; refine sCallX_one (c_rowsOf (o.take R.n) (by simp; omega)) ?_; try simp -dsimp -implicitDefEqProofs only [go_sem, ↓reduceIte, Nat.reduceEqDiff, Nat.reduceLT, Nat.reduceAdd, Nat.reduceMul, Nat.reduceLeDiff, Nat.le_refl, Int.natCast_zero, Int.toNat_natCast, Int.reduceToNat, *])))
      all_goals first
        | omega
        | (exact rfl)
        | (refine ⟨?_, ?_⟩ <;> omega)
        | (rw [← hcu, take_map_len]; done)
        | (simp; done)
        | (simp_all; done)
        | trace_state
    · intro p
      simp -dsimp -implicitDefEqProofs only [go_sem, ↓reduceIte, Nat.reduceEqDiff, Nat.reduceLT, Nat.reduceAdd, Nat.reduceMul, Nat.reduceLeDiff, Nat.le_refl, Int.natCast_zero, Int.toNat_natCast, Int.reduceToNat]
      refine sCallT_inl 710000 13 [.tmp 2] Try.func56 rfl rfl rfl rfl rfl (by exact of_decide_eq_true rfl) ?_
      simp -dsimp -implicitDefEqProofs only [go_sem, ↓reduceIte, Nat.reduceEqDiff, Nat.reduceLT, Nat.reduceAdd, Nat.reduceMul, Nat.reduceLeDiff, Nat.le_refl, Int.natCast_zero, Int.toNat_natCast, Int.reduceToNat, hd]
      (repeat' (first | (refine Br.intro (fun _ => ?_) (fun _ => ?_) <;> try simp -dsimp -implicitDefEqProofs only [go_sem, ↓reduceIte, Nat.reduceEqDiff, Nat.reduceLT, Nat.reduceAdd, Nat.reduceMul, Nat.reduceLeDiff, Nat.le_refl, Int.natCast_zero, Int.toNat_natCast, Int.reduceToNat, *]) | (with_reducible refine And.intro ?_ ?_) | (refine Later.draw mixed rfl ?_; try simp -dsimp -implicitDefEqProofs only [go_sem, ↓reduceIte, Nat.reduceEqDiff, Nat.reduceLT, Nat.reduceAdd, Nat.reduceMul, Nat.reduceLeDiff, Nat.le_refl, Int.natCast_zero, Int.toNat_natCast, Int.reduceToNat, *])))
      all_goals try (first | omega | (exact rfl) | (rw [← hcu, take_map_len]; done) | (simp; done) | (simp [hcu]; done))
      refine sCallT_inl 720000 13 [.tmp 2] Try.func61 rfl rfl rfl rfl rfl (by exact of_decide_eq_true rfl) ?_
      simp -dsimp -implicitDefEqProofs only [go_sem, ↓reduceIte, Nat.reduceEqDiff, Nat.reduceLT, Nat.reduceAdd, Nat.reduceMul, Nat.reduceLeDiff, Nat.le_refl, Int.natCast_zero, Int.toNat_natCast, Int.reduceToNat]
      (repeat' (first | (refine Br.intro (fun _ => ?_) (fun _ => ?_) <;> try simp -dsimp -implicitDefEqProofs only [go_sem, ↓reduceIte, Nat.reduceEqDiff, Nat.reduceLT, Nat.reduceAdd, Nat.reduceMul, Nat.reduceLeDiff, Nat.le_refl, Int.natCast_zero, Int.toNat_natCast, Int.reduceToNat, *]) | (with_reducible refine And.intro ?_ ?_) | (refine Later.draw mixed rfl ?_; try simp -dsimp -implicitDefEqProofs only [go_sem, ↓reduceIte, Nat.reduceEqDiff, Nat.reduceLT, Nat.reduceAdd, Nat.reduceMul, Nat.reduceLeDiff, Nat.le_refl, Int.natCast_zero, Int.toNat_natCast, Int.reduceToNat, *]) | (rw [← List.map_take]; refine sCallX_one (c_rowsOf (o.take R.n) (by simp; omega)) ?_; try simp -dsimp -implicitDefEqProofs only [go_sem, ↓reduceIte, Nat.reduceEqDiff, Nat.reduceLT, Nat.reduceAdd, Nat.reduceMul, Nat.reduceLeDiff, Nat.le_refl, Int.natCast_zero, Int.toNat_natCast, Int.reduceToNat, *])))
      all_goals first
        | omega
        | (exact rfl)
        | (refine ⟨?_, ?_⟩ <;> omega)
        | (rw [← hcu, take_map_len]; done)
        | (simp; done)
        | (simp_all; done)
        | trace_state

set_option maxHeartbeats 4000000 in
theorem c_iKeyFrom (m : MkM) (l : List (List Int)) (o : List Int) (ps : List PkM) (h : l.length ≤ 1048576) (h2 : ∀ x ∈ l, x.length ≤ 1048576) (h3 : o.length ≤ 1048576) (h5 : ps.length ≤ 1048576) : Fn Try.prog 38 [eMk m, eLk l, eIs o, ePs ps] true (· = .tup [eIs (keyFrom m l o ps).1, eI (keyFrom m l o ps).2]) := by
  refine Fn.of_vcN 35 [.tmp 8, .tmp 9] Try.func38 rfl rfl rfl rfl rfl (of_decide_eq_true rfl) ?_
  by_cases hb : pksCode m l o [] ps = 0
  rotate_left
  · have hF : keyFrom m l o ps = ([], pksCode m l o [] ps) := by rw [keyFrom, if_neg hb]
    rw [hF]
    clear hF
    simp -dsimp -implicitDefEqProofs only [go_sem, ↓reduceIte, Nat.reduceEqDiff, Nat.reduceLT, Nat.reduceAdd, Nat.reduceMul, Nat.reduceLeDiff, Nat.le_refl, Int.natCast_zero, Int.toNat_natCast, Int.reduceToNat]
    repeat' first
      | (refine Br.intro (fun _ => ?_) (fun _ => ?_) <;> try simp -dsimp -implicitDefEqProofs only [go_sem, ↓reduceIte, Nat.reduceEqDiff, Nat.reduceLT, Nat.reduceAdd, Nat.reduceMul, Nat.reduceLeDiff, Nat.le_refl, Int.natCast_zero, Int.toNat_natCast, Int.reduceToNat, *])
      | (with_reducible refine And.intro ?_ ?_)
      | (refine sCallT_one (c_iCodeP m l o ps h h2 h3 h5) ?_; try simp -dsimp -implicitDefEqProofs only [go_sem, ↓reduceIte, Nat.reduceEqDiff, Nat.reduceLT, Nat.reduceAdd, Nat.reduceMul, Nat.reduceLeDiff, Nat.le_refl, Int.natCast_zero, Int.toNat_natCast, Int.reduceToNat, *])
    all_goals first
      | omega
      | (simp_all; done)
      | trace_state
  obtain ⟨hb1, hp⟩ := pksCode_zero hb
  obtain ⟨k1, k2, k3⟩ := pkCode_zero hb1
  have pk := Pk.of k1 k2
  have n6 := pk.n6
  have hvc := vc_pickLock m l o ps pk h2 hp h5
  have hn := runS_n l o ps ps.length
  have hmd := madeS_le l o ps
  have hcu := runS_cuts l o ps ps.length
  have hcode := c_iCodeP m l o ps h h2 h3 h5
  rw [hb] at hcode
  have hF : keyFrom m l o ps = if (runS l o ps ps.length).n < o.length then ([], 5) else ((runS l o ps ps.length).cuts, 0) := by rw [keyFrom, if_pos hb]
  generalize runS l o ps ps.length = R at *
  generalize madeS l o ps = M at *
  rcases Nat.lt_or_ge R.n o.length with hlt | hge
  · have hd : ((R.n : Int) == o.length) = false := by simp; omega
    rw [if_pos hlt] at hF
    rw [hF]
    clear hF
    clear hb hb1 k1 k2 k3 pk hp
    simp -dsimp -implicitDefEqProofs only [go_sem, ↓reduceIte, Nat.reduceEqDiff, Nat.reduceLT, Nat.reduceAdd, Nat.reduceMul, Nat.reduceLeDiff, Nat.le_refl, Int.natCast_zero, Int.toNat_natCast, Int.reduceToNat]
    repeat' first
      | (refine Br.intro (fun _ => ?_) (fun _ => ?_) <;> try simp -dsimp -implicitDefEqProofs only [go_sem, ↓reduceIte, Nat.reduceEqDiff, Nat.reduceLT, Nat.reduceAdd, Nat.reduceMul, Nat.reduceLeDiff, Nat.le_refl, Int.natCast_zero, Int.toNat_natCast, Int.reduceToNat, *])
      | (with_reducible refine And.intro ?_ ?_)
      | (refine sCallT_one (hcode) ?_; try simp -dsimp -implicitDefEqProofs only [go_sem, ↓reduceIte, Nat.reduceEqDiff, Nat.reduceLT, Nat.reduceAdd, Nat.reduceMul, Nat.reduceLeDiff, Nat.le_refl, Int.natCast_zero, Int.toNat_natCast, Int.reduceToNat, *])
    all_goals try (first | omega | (simp; done))
    refine sCallT_inl 700000 35 [.tmp 6, .tmp 7] Try.func64 rfl rfl rfl rfl rfl (by exact of_decide_eq_true rfl) ⟨?_, ?_⟩
    · simp -dsimp -implicitDefEqProofs only [go_sem, ↓reduceIte, Nat.reduceEqDiff, Nat.reduceLT, Nat.reduceAdd, Nat.reduceMul, Nat.reduceLeDiff, Nat.le_refl, Int.natCast_zero, Int.toNat_natCast, Int.reduceToNat]
    simp -dsimp -implicitDefEqProofs only [lowP_nil, lowP_cons, inF_nil, inF_cons, rnsM_nil, rnsM_cons, rnsL_nil, rnsL_cons, rnsA_nil, rnsA_cons, rl_eq, rnA_ref, rnA_ptr, rnA_agg, rnA_arr, rnA_val, rnA_e0, rnL_nil, rnL_cons, rnB_box, rnB_row, rnB_gone, rnM_nil, rnM_cons, Nat.reduceLT, decide_true, decide_false, Bool.true_and, Bool.not_false, Bool.not_true, Bool.and_false, Nat.reduceBEq, Bool.or_false, beq_self_eq_true, Bool.true_or, ↓reduceIte, Nat.reduceEqDiff, Nat.reduceAdd, Bool.and_true]
    refine hvc _ ?_ ?_ _ rfl
    · simp -dsimp -implicitDefEqProofs only [go_sem, ↓reduceIte, Nat.reduceEqDiff, Nat.reduceLT, Nat.reduceAdd, Nat.reduceMul, Nat.reduceLeDiff, Nat.le_refl, Int.natCast_zero, Int.toNat_natCast, Int.reduceToNat]
      refine sCallT_inl 710000 13 [.tmp 2] Try.func56 rfl rfl rfl rfl rfl (by exact of_decide_eq_true rfl) ?_
      simp -dsimp -implicitDefEqProofs only [go_sem, ↓reduceIte, Nat.reduceEqDiff, Nat.reduceLT, Nat.reduceAdd, Nat.reduceMul, Nat.reduceLeDiff, Nat.le_refl, Int.natCast_zero, Int.toNat_natCast, Int.reduceToNat, hd]
      (repeat' (first | (refine Br.intro (fun _ => ?_) (fun _ => ?_) <;> try simp -dsimp -implicitDefEqProofs only [go_sem, ↓reduceIte, Nat.reduceEqDiff, Nat.reduceLT, Nat.reduceAdd, Nat.reduceMul, Nat.reduceLeDiff, Nat.le_refl, Int.natCast_zero, Int.toNat_natCast, Int.reduceToNat, *]) | (with_reducible refine And.intro ?_ ?_) | (refine Later.draw mixed rfl ?_; try simp -dsimp -implicitDefEqProofs only [go_sem, ↓reduceIte, Nat.reduceEqDiff, Nat.reduceLT, Nat.reduceAdd, Nat.reduceMul, Nat.reduceLeDiff, Nat.le_refl, Int.natCast_zero, Int.toNat_natCast, Int.reduceToNat, *])))
      all_goals try (first | omega | (exact rfl) | (rw [← hcu, take_map_len]; done) | (simp; done) | (simp [hcu]; done))
    · intro p
      simp -dsimp -implicitDefEqProofs only [go_sem, ↓reduceIte, Nat.reduceEqDiff, Nat.reduceLT, Nat.reduceAdd, Nat.reduceMul, Nat.reduceLeDiff, Nat.le_refl, Int.natCast_zero, Int.toNat_natCast, Int.reduceToNat]
      refine sCallT_inl 710000 13 [.tmp 2] Try.func56 rfl rfl rfl rfl rfl (by exact of_decide_eq_true rfl) ?_
      simp -dsimp -implicitDefEqProofs only [go_sem, ↓reduceIte, Nat.reduceEqDiff, Nat.reduceLT, Nat.reduceAdd, Nat.reduceMul, Nat.reduceLeDiff, Nat.le_refl, Int.natCast_zero, Int.toNat_natCast, Int.reduceToNat, hd]
      (repeat' (first | (refine Br.intro (fun _ => ?_) (fun _ => ?_) <;> try simp -dsimp -implicitDefEqProofs only [go_sem, ↓reduceIte, Nat.reduceEqDiff, Nat.reduceLT, Nat.reduceAdd, Nat.reduceMul, Nat.reduceLeDiff, Nat.le_refl, Int.natCast_zero, Int.toNat_natCast, Int.reduceToNat, *]) | (with_reducible refine And.intro ?_ ?_) | (refine Later.draw mixed rfl ?_; try simp -dsimp -implicitDefEqProofs only [go_sem, ↓reduceIte, Nat.reduceEqDiff, Nat.reduceLT, Nat.reduceAdd, Nat.reduceMul, Nat.reduceLeDiff, Nat.le_refl, Int.natCast_zero, Int.toNat_natCast, Int.reduceToNat, *])))
      all_goals try (first | omega | (exact rfl) | (rw [← hcu, take_map_len]; done) | (simp; done) | (simp [hcu]; done))
  · have hd : ((R.n : Int) == o.length) = true := by simp; omega
    rw [if_neg (by omega)] at hF
    rw [hF]
    clear hF
    clear hb hb1 k1 k2 k3 pk hp
    simp -dsimp -implicitDefEqProofs only [go_sem, ↓reduceIte, Nat.reduceEqDiff, Nat.reduceLT, Nat.reduceAdd, Nat.reduceMul, Nat.reduceLeDiff, Nat.le_refl, Int.natCast_zero, Int.toNat_natCast, Int.reduceToNat]
    repeat' first
      | (refine Br.intro (fun _ => ?_) (fun _ => ?_) <;> try simp -dsimp -implicitDefEqProofs only [go_sem, ↓reduceIte, Nat.reduceEqDiff, Nat.reduceLT, Nat.reduceAdd, Nat.reduceMul, Nat.reduceLeDiff, Nat.le_refl, Int.natCast_zero, Int.toNat_natCast, Int.reduceToNat, *])
      | (with_reducible refine And.intro ?_ ?_)
      | (refine sCallT_one (hcode) ?_; try simp -dsimp -implicitDefEqProofs only [go_sem, ↓reduceIte, Nat.reduceEqDiff, Nat.reduceLT, Nat.reduceAdd, Nat.reduceMul, Nat.reduceLeDiff, Nat.le_refl, Int.natCast_zero, Int.toNat_natCast, Int.reduceToNat, *])
    all_goals try (first | omega | (simp; done))
    refine sCallT_inl 700000 35 [.tmp 6, .tmp 7] Try.func64 rfl rfl rfl rfl rfl (by exact of_decide_eq_true rfl) ⟨?_, ?_⟩
    · simp -dsimp -implicitDefEqProofs only [go_sem, ↓reduceIte, Nat.reduceEqDiff, Nat.reduceLT, Nat.reduceAdd, Nat.reduceMul, Nat.reduceLeDiff, Nat.le_refl, Int.natCast_zero, Int.toNat_natCast, Int.reduceToNat]
    simp -dsimp -implicitDefEqProofs only [lowP_nil, lowP_cons, inF_nil, inF_cons, rnsM_nil, rnsM_cons, rnsL_nil, rnsL_cons, rnsA_nil, rnsA_cons, rl_eq, rnA_ref, rnA_ptr, rnA_agg, rnA_arr, rnA_val, rnA_e0, rnL_nil, rnL_cons, rnB_box, rnB_row, rnB_gone, rnM_nil, rnM_cons, Nat.reduceLT, decide_true, decide_false, Bool.true_and, Bool.not_false, Bool.not_true, Bool.and_false, Nat.reduceBEq, Bool.or_false, beq_self_eq_true, Bool.true_or, ↓reduceIte, Nat.reduceEqDiff, Nat.reduceAdd, Bool.and_true]
    refine hvc _ ?_ ?_ _ rfl
    · simp -dsimp -implicitDefEqProofs only [go_sem, ↓reduceIte, Nat.reduceEqDiff, Nat.reduceLT, Nat.reduceAdd, Nat.reduceMul, Nat.reduceLeDiff, Nat.le_refl, Int.natCast_zero, Int.toNat_natCast, Int.reduceToNat]
      refine sCallT_inl 710000 13 [.tmp 2] Try.func56 rfl rfl rfl rfl rfl (by exact of_decide_eq_true rfl) ?_
      simp -dsimp -implicitDefEqProofs only [go_sem, ↓reduceIte, Nat.reduceEqDiff, Nat.reduceLT, Nat.reduceAdd, Nat.reduceMul, Nat.reduceLeDiff, Nat.le_refl, Int.natCast_zero, Int.toNat_natCast, Int.reduceToNat, hd]
      (repeat' (first | (refine Br.intro (fun _ => ?_) (fun _ => ?_) <;> try simp -dsimp -implicitDefEqProofs only [go_sem, ↓reduceIte, Nat.reduceEqDiff, Nat.reduceLT, Nat.reduceAdd, Nat.reduceMul, Nat.reduceLeDiff, Nat.le_refl, Int.natCast_zero, Int.toNat_natCast, Int.reduceToNat, *]) | (with_reducible refine And.intro ?_ ?_) | (refine Later.draw mixed rfl ?_; try simp -dsimp -implicitDefEqProofs only [go_sem, ↓reduceIte, Nat.reduceEqDiff, Nat.reduceLT, Nat.reduceAdd, Nat.reduceMul, Nat.reduceLeDiff, Nat.le_refl, Int.natCast_zero, Int.toNat_natCast, Int.reduceToNat, *])))
      all_goals try (first | omega | (exact rfl) | (rw [← hcu, take_map_len]; done) | (simp; done) | (simp [hcu]; done))
    · intro p
      simp -dsimp -implicitDefEqProofs only [go_sem, ↓reduceIte, Nat.reduceEqDiff, Nat.reduceLT, Nat.reduceAdd, Nat.reduceMul, Nat.reduceLeDiff, Nat.le_refl, Int.natCast_zero, Int.toNat_natCast, Int.reduceToNat]
      refine sCallT_inl 710000 13 [.tmp 2] Try.func56 rfl rfl rfl rfl rfl (by exact of_decide_eq_true rfl) ?_
      simp -dsimp -implicitDefEqProofs only [go_sem, ↓reduceIte, Nat.reduceEqDiff, Nat.reduceLT, Nat.reduceAdd, Nat.reduceMul, Nat.reduceLeDiff, Nat.le_refl, Int.natCast_zero, Int.toNat_natCast, Int.reduceToNat, hd]
      (repeat' (first | (refine Br.intro (fun _ => ?_) (fun _ => ?_) <;> try simp -dsimp -implicitDefEqProofs only [go_sem, ↓reduceIte, Nat.reduceEqDiff, Nat.reduceLT, Nat.reduceAdd, Nat.reduceMul, Nat.reduceLeDiff, Nat.le_refl, Int.natCast_zero, Int.toNat_natCast, Int.reduceToNat, *]) | (with_reducible refine And.intro ?_ ?_) | (refine Later.draw mixed rfl ?_; try simp -dsimp -implicitDefEqProofs only [go_sem, ↓reduceIte, Nat.reduceEqDiff, Nat.reduceLT, Nat.reduceAdd, Nat.reduceMul, Nat.reduceLeDiff, Nat.le_refl, Int.natCast_zero, Int.toNat_natCast, Int.reduceToNat, *])))
      all_goals try (first | omega | (exact rfl) | (rw [← hcu, take_map_len]; done) | (simp; done) | (simp [hcu]; done))

set_option maxHeartbeats 4000000 in
theorem c_iFallsOf (m : MkM) (l : List (List Int)) (o : List Int) (ps : List PkM) (h : l.length ≤ 1048576) (h2 : ∀ x ∈ l, x.length ≤ 1048576) (h3 : o.length ≤ 1048576) (h5 : ps.length ≤ 1048576) : Fn Try.prog 36 [eMk m, eLk l, eIs o, ePs ps] true (· = .tup [eI (fallsOf m l o ps).1, eI (fallsOf m l o ps).2]) := by
  refine Fn.of_vcN 32 [.tmp 8, .tmp 9] Try.func36 rfl rfl rfl rfl rfl (of_decide_eq_true rfl) ?_
  by_cases hb : pksCode m l o [] ps = 0
  rotate_left
  · have hF : fallsOf m l o ps = (0, pksCode m l o [] ps) := by rw [fallsOf, if_neg hb]
    rw [hF]
    clear hF
    simp -dsimp -implicitDefEqProofs only [go_sem, ↓reduceIte, Nat.reduceEqDiff, Nat.reduceLT, Nat.reduceAdd, Nat.reduceMul, Nat.reduceLeDiff, Nat.le_refl, Int.natCast_zero, Int.toNat_natCast, Int.reduceToNat]
    repeat' first
      | (refine Br.intro (fun _ => ?_) (fun _ => ?_) <;> try simp -dsimp -implicitDefEqProofs only [go_sem, ↓reduceIte, Nat.reduceEqDiff, Nat.reduceLT, Nat.reduceAdd, Nat.reduceMul, Nat.reduceLeDiff, Nat.le_refl, Int.natCast_zero, Int.toNat_natCast, Int.reduceToNat, *])
      | (with_reducible refine And.intro ?_ ?_)
      | (refine sCallT_one (c_iCodeP m l o ps h h2 h3 h5) ?_; try simp -dsimp -implicitDefEqProofs only [go_sem, ↓reduceIte, Nat.reduceEqDiff, Nat.reduceLT, Nat.reduceAdd, Nat.reduceMul, Nat.reduceLeDiff, Nat.le_refl, Int.natCast_zero, Int.toNat_natCast, Int.reduceToNat, *])
    all_goals first
      | omega
      | (simp_all; done)
      | trace_state
  obtain ⟨hb1, hp⟩ := pksCode_zero hb
  obtain ⟨k1, k2, k3⟩ := pkCode_zero hb1
  have pk := Pk.of k1 k2
  have n6 := pk.n6
  have hvc := vc_pickLock m l o ps pk h2 hp h5
  have hn := runS_n l o ps ps.length
  have hmd := madeS_le l o ps
  have hcu := runS_cuts l o ps ps.length
  have hcode := c_iCodeP m l o ps h h2 h3 h5
  rw [hb] at hcode
  have hF : fallsOf m l o ps = ((runS l o ps ps.length).falls, 0) := by rw [fallsOf, if_pos hb]
  generalize runS l o ps ps.length = R at *
  generalize madeS l o ps = M at *
  rcases Nat.lt_or_ge R.n o.length with hlt | hge
  · have hd : ((R.n : Int) == o.length) = false := by simp; omega
    rw [hF]
    clear hF
    clear hb hb1 k1 k2 k3 pk hp
    simp -dsimp -implicitDefEqProofs only [go_sem, ↓reduceIte, Nat.reduceEqDiff, Nat.reduceLT, Nat.reduceAdd, Nat.reduceMul, Nat.reduceLeDiff, Nat.le_refl, Int.natCast_zero, Int.toNat_natCast, Int.reduceToNat]
    repeat' first
      | (refine Br.intro (fun _ => ?_) (fun _ => ?_) <;> try simp -dsimp -implicitDefEqProofs only [go_sem, ↓reduceIte, Nat.reduceEqDiff, Nat.reduceLT, Nat.reduceAdd, Nat.reduceMul, Nat.reduceLeDiff, Nat.le_refl, Int.natCast_zero, Int.toNat_natCast, Int.reduceToNat, *])
      | (with_reducible refine And.intro ?_ ?_)
      | (refine sCallT_one (hcode) ?_; try simp -dsimp -implicitDefEqProofs only [go_sem, ↓reduceIte, Nat.reduceEqDiff, Nat.reduceLT, Nat.reduceAdd, Nat.reduceMul, Nat.reduceLeDiff, Nat.le_refl, Int.natCast_zero, Int.toNat_natCast, Int.reduceToNat, *])
    all_goals try (first | omega | (simp; done))
    refine sCallT_inl 700000 35 [.tmp 6, .tmp 7] Try.func64 rfl rfl rfl rfl rfl (by exact of_decide_eq_true rfl) ⟨?_, ?_⟩
    · simp -dsimp -implicitDefEqProofs only [go_sem, ↓reduceIte, Nat.reduceEqDiff, Nat.reduceLT, Nat.reduceAdd, Nat.reduceMul, Nat.reduceLeDiff, Nat.le_refl, Int.natCast_zero, Int.toNat_natCast, Int.reduceToNat]
    simp -dsimp -implicitDefEqProofs only [lowP_nil, lowP_cons, inF_nil, inF_cons, rnsM_nil, rnsM_cons, rnsL_nil, rnsL_cons, rnsA_nil, rnsA_cons, rl_eq, rnA_ref, rnA_ptr, rnA_agg, rnA_arr, rnA_val, rnA_e0, rnL_nil, rnL_cons, rnB_box, rnB_row, rnB_gone, rnM_nil, rnM_cons, Nat.reduceLT, decide_true, decide_false, Bool.true_and, Bool.not_false, Bool.not_true, Bool.and_false, Nat.reduceBEq, Bool.or_false, beq_self_eq_true, Bool.true_or, ↓reduceIte, Nat.reduceEqDiff, Nat.reduceAdd, Bool.and_true]
    refine hvc _ ?_ ?_ _ rfl
    · simp -dsimp -implicitDefEqProofs only [go_sem, ↓reduceIte, Nat.reduceEqDiff, Nat.reduceLT, Nat.reduceAdd, Nat.reduceMul, Nat.reduceLeDiff, Nat.le_refl, Int.natCast_zero, Int.toNat_natCast, Int.reduceToNat]
      (repeat' (first | (refine Br.intro (fun _ => ?_) (fun _ => ?_) <;> try simp -dsimp -implicitDefEqProofs only [go_sem, ↓reduceIte, Nat.reduceEqDiff, Nat.reduceLT, Nat.reduceAdd, Nat.reduceMul, Nat.reduceLeDiff, Nat.le_refl, Int.natCast_zero, Int.toNat_natCast, Int.reduceToNat, *]) | (with_reducible refine And.intro ?_ ?_) | (refine Later.draw mixed rfl ?_; try simp -dsimp -implicitDefEqProofs only [go_sem, ↓reduceIte, Nat.reduceEqDiff, Nat.reduceLT, Nat.reduceAdd, Nat.reduceMul, Nat.reduceLeDiff, Nat.le_refl, Int.natCast_zero, Int.toNat_natCast, Int.reduceToNat, *]) | (rw [← List.map_take]; refine sCallX_one (c_rowsOf (o.take R.n) (by simp; omega)) ?_; try simp -dsimp -implicitDefEqProofs only [go_sem, ↓reduceIte, Nat.reduceEqDiff, Nat.reduceLT, Nat.reduceAdd, Nat.reduceMul, Nat.reduceLeDiff, Nat.le_refl, Int.natCast_zero, Int.toNat_natCast, Int.reduceToNat, *])))
      all_goals first
        | omega
        | (exact rfl)
        | (refine ⟨?_, ?_⟩ <;> omega)
        | (rw [← hcu, take_map_len]; done)
        | (simp; done)
        | (simp_all; done)
        | trace_state
    · intro p
      simp -dsimp -implicitDefEqProofs only [go_sem, ↓reduceIte, Nat.reduceEqDiff, Nat.reduceLT, Nat.reduceAdd, Nat.reduceMul, Nat.reduceLeDiff, Nat.le_refl, Int.natCast_zero, Int.toNat_natCast, Int.reduceToNat]
      (repeat' (first | (refine Br.intro (fun _ => ?_) (fun _ => ?_) <;> try simp -dsimp -implicitDefEqProofs only [go_sem, ↓reduceIte, Nat.reduceEqDiff, Nat.reduceLT, Nat.reduceAdd, Nat.reduceMul, Nat.reduceLeDiff, Nat.le_refl, Int.natCast_zero, Int.toNat_natCast, Int.reduceToNat, *]) | (with_reducible refine And.intro ?_ ?_) | (refine Later.draw mixed rfl ?_; try simp -dsimp -implicitDefEqProofs only [go_sem, ↓reduceIte, Nat.reduceEqDiff, Nat.reduceLT, Nat.reduceAdd, Nat.reduceMul, Nat.reduceLeDiff, Nat.le_refl, Int.natCast_zero, Int.toNat_natCast, Int.reduceToNat, *]) | (rw [← List.map_take]; refine sCallX_one (c_rowsOf (o.take R.n) (by simp; omega)) ?_; try simp -dsimp -implicitDefEqProofs only [go_sem, ↓reduceIte, Nat.reduceEqDiff, Nat.reduceLT, Nat.reduceAdd, Nat.reduceMul, Nat.reduceLeDiff, Nat.le_refl, Int.natCast_zero, Int.toNat_natCast, Int.reduceToNat, *])))
      all_goals first
        | omega
        | (exact rfl)
        | (refine ⟨?_, ?_⟩ <;> omega)
        | (rw [← hcu, take_map_len]; done)
        | (simp; done)
        | (simp_all; done)
        | trace_state
  · have hd : ((R.n : Int) == o.length) = true := by simp; omega
    rw [hF]
    clear hF
    clear hb hb1 k1 k2 k3 pk hp
    simp -dsimp -implicitDefEqProofs only [go_sem, ↓reduceIte, Nat.reduceEqDiff, Nat.reduceLT, Nat.reduceAdd, Nat.reduceMul, Nat.reduceLeDiff, Nat.le_refl, Int.natCast_zero, Int.toNat_natCast, Int.reduceToNat]
    repeat' first
      | (refine Br.intro (fun _ => ?_) (fun _ => ?_) <;> try simp -dsimp -implicitDefEqProofs only [go_sem, ↓reduceIte, Nat.reduceEqDiff, Nat.reduceLT, Nat.reduceAdd, Nat.reduceMul, Nat.reduceLeDiff, Nat.le_refl, Int.natCast_zero, Int.toNat_natCast, Int.reduceToNat, *])
      | (with_reducible refine And.intro ?_ ?_)
      | (refine sCallT_one (hcode) ?_; try simp -dsimp -implicitDefEqProofs only [go_sem, ↓reduceIte, Nat.reduceEqDiff, Nat.reduceLT, Nat.reduceAdd, Nat.reduceMul, Nat.reduceLeDiff, Nat.le_refl, Int.natCast_zero, Int.toNat_natCast, Int.reduceToNat, *])
    all_goals try (first | omega | (simp; done))
    refine sCallT_inl 700000 35 [.tmp 6, .tmp 7] Try.func64 rfl rfl rfl rfl rfl (by exact of_decide_eq_true rfl) ⟨?_, ?_⟩
    · simp -dsimp -implicitDefEqProofs only [go_sem, ↓reduceIte, Nat.reduceEqDiff, Nat.reduceLT, Nat.reduceAdd, Nat.reduceMul, Nat.reduceLeDiff, Nat.le_refl, Int.natCast_zero, Int.toNat_natCast, Int.reduceToNat]
    simp -dsimp -implicitDefEqProofs only [lowP_nil, lowP_cons, inF_nil, inF_cons, rnsM_nil, rnsM_cons, rnsL_nil, rnsL_cons, rnsA_nil, rnsA_cons, rl_eq, rnA_ref, rnA_ptr, rnA_agg, rnA_arr, rnA_val, rnA_e0, rnL_nil, rnL_cons, rnB_box, rnB_row, rnB_gone, rnM_nil, rnM_cons, Nat.reduceLT, decide_true, decide_false, Bool.true_and, Bool.not_false, Bool.not_true, Bool.and_false, Nat.reduceBEq, Bool.or_false, beq_self_eq_true, Bool.true_or, ↓reduceIte, Nat.reduceEqDiff, Nat.reduceAdd, Bool.and_true]
    refine hvc _ ?_ ?_ _ rfl
    · simp -dsimp -implicitDefEqProofs only [go_sem, ↓reduceIte, Nat.reduceEqDiff, Nat.reduceLT, Nat.reduceAdd, Nat.reduceMul, Nat.reduceLeDiff, Nat.le_refl, Int.natCast_zero, Int.toNat_natCast, Int.reduceToNat]
      (repeat' (first | (refine Br.intro (fun _ => ?_) (fun _ => ?_) <;> try simp -dsimp -implicitDefEqProofs only [go_sem, ↓reduceIte, Nat.reduceEqDiff, Nat.reduceLT, Nat.reduceAdd, Nat.reduceMul, Nat.reduceLeDiff, Nat.le_refl, Int.natCast_zero, Int.toNat_natCast, Int.reduceToNat, *]) | (with_reducible refine And.intro ?_ ?_) | (refine Later.draw mixed rfl ?_; try simp -dsimp -implicitDefEqProofs only [go_sem, ↓reduceIte, Nat.reduceEqDiff, Nat.reduceLT, Nat.reduceAdd, Nat.reduceMul, Nat.reduceLeDiff, Nat.le_refl, Int.natCast_zero, Int.toNat_natCast, Int.reduceToNat, *]) | (rw [← List.map_take]; refine sCallX_one (c_rowsOf (o.take R.n) (by simp; omega)) ?_; try simp -dsimp -implicitDefEqProofs only [go_sem, ↓reduceIte, Nat.reduceEqDiff, Nat.reduceLT, Nat.reduceAdd, Nat.reduceMul, Nat.reduceLeDiff, Nat.le_refl, Int.natCast_zero, Int.toNat_natCast, Int.reduceToNat, *])))
      all_goals first
        | omega
        | (exact rfl)
        | (refine ⟨?_, ?_⟩ <;> omega)
        | (rw [← hcu, take_map_len]; done)
        | (simp; done)
        | (simp_all; done)
        | trace_state
    · intro p
      simp -dsimp -implicitDefEqProofs only [go_sem, ↓reduceIte, Nat.reduceEqDiff, Nat.reduceLT, Nat.reduceAdd, Nat.reduceMul, Nat.reduceLeDiff, Nat.le_refl, Int.natCast_zero, Int.toNat_natCast, Int.reduceToNat]
      (repeat' (first | (refine Br.intro (fun _ => ?_) (fun _ => ?_) <;> try simp -dsimp -implicitDefEqProofs only [go_sem, ↓reduceIte, Nat.reduceEqDiff, Nat.reduceLT, Nat.reduceAdd, Nat.reduceMul, Nat.reduceLeDiff, Nat.le_refl, Int.natCast_zero, Int.toNat_natCast, Int.reduceToNat, *]) | (with_reducible refine And.intro ?_ ?_) | (refine Later.draw mixed rfl ?_; try simp -dsimp -implicitDefEqProofs only [go_sem, ↓reduceIte, Nat.reduceEqDiff, Nat.reduceLT, Nat.reduceAdd, Nat.reduceMul, Nat.reduceLeDiff, Nat.le_refl, Int.natCast_zero, Int.toNat_natCast, Int.reduceToNat, *]) | (rw [← List.map_take]; refine sCallX_one (c_rowsOf (o.take R.n) (by simp; omega)) ?_; try simp -dsimp -implicitDefEqProofs only [go_sem, ↓reduceIte, Nat.reduceEqDiff, Nat.reduceLT, Nat.reduceAdd, Nat.reduceMul, Nat.reduceLeDiff, Nat.le_refl, Int.natCast_zero, Int.toNat_natCast, Int.reduceToNat, *])))
      all_goals first
        | omega
        | (exact rfl)
        | (refine ⟨?_, ?_⟩ <;> omega)
        | (rw [← hcu, take_map_len]; done)
        | (simp; done)
        | (simp_all; done)
        | trace_state

end Go.Vc
