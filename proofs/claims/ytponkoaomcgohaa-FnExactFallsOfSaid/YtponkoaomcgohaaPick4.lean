/-
  Contracts of the functions on picking: many picks, by the reference.
-/
import Derived.Test.YtponkoaomcgohaaPick3
set_option linter.unusedVariables false
set_option linter.unusedSimpArgs false
set_option linter.unnecessarySimpa false
namespace Go.Vc
open Go.Proofs
set_option maxRecDepth 100000
theorem runS_step {l : List (List Int)} {o : List Int} {ps : List PkM} {i : Nat} (hi : i < ps.length) {n' : Nat} {b : Bool} (q2 : pickN l o (runS l o ps i).n ps[i] = n') (q3 : hit l o (runS l o ps i).n ps[i] = b) :
    runS l o ps (i + 1) = ⟨n', if b then (runS l o ps i).cuts.set ps[i].chamber.toNat ps[i].depth else (runS l o ps i).cuts, if n' < (runS l o ps i).n then (runS l o ps i).falls + 1 else (runS l o ps i).falls⟩ := by
  rw [runS_succ _ _ _ _ hi, pickS, q2, q3]
theorem ps_num {m : MkM} {o : List Int} {ps : List PkM} (hch : (o.length : Int) = m.chambers) (h : ps.all (pickOk m) = true) {i : Nat} (hi : i < ps.length) : 0 ≤ ps[i].chamber ∧ ps[i].chamber < o.length :=
  pickOk_num hch (List.all_eq_true.1 h _ (List.getElem_mem hi))
def runR (l : List (List Int)) (o : List Int) (ps : List PkM) : AV := .tup [eI (runS l o ps ps.length).n, eI (madeS l o ps), eI (runS l o ps ps.length).falls, eIs (runS l o ps ps.length).cuts]
theorem c_l32Run (m : MkM) (l : List (List Int)) (o : List Int) (ps : List PkM) (pk : Pk m l o) (h2 : ∀ x ∈ l, x.length ≤ 1048576) (hp : ps.all (pickOk m) = true) (h5 : ps.length ≤ 1048576) :
    Fn Try.prog 63 [eLk l, eIs o, ePs ps] true (· = runR l o ps) := by
  refine Fn.of_vcN 63 [.tmp 6, .tmp 7, .tmp 8, .tmp 9] Try.func63 rfl rfl rfl rfl rfl (of_decide_eq_true rfl) ?_
  have n6 := pk.n6
  simp -dsimp -implicitDefEqProofs only [go_sem, ↓reduceIte, Nat.reduceEqDiff, Nat.reduceLT, Nat.reduceAdd, Nat.reduceMul, Nat.reduceLeDiff, Nat.le_refl, Int.natCast_zero, Int.toNat_natCast, Int.reduceToNat]
  repeat' (with_reducible refine And.intro ?_ ?_)
  all_goals try (first | omega | (refine ⟨?_, ?_⟩ <;> omega) | (simp; done))
  refine Later.up [1, 2, 3, 13] [20, 25, 35] [17] ps.length (fun i => ∀ j, j < i → (runS l o ps j).n ≠ o.length) (fun i => [(10, eI (runS l o ps i).n), (11, eI i), (12, eI (runS l o ps i).falls)])
    (fun i => [(17, .row 0 ⟨1, false⟩ true ((runS l o ps i).cuts.map eI))]) (fun j hj => absurd hj (Nat.not_lt_zero _)) ?_ rfl (fun i hi hI => ?_) (fun hI => ?_)
  · rw [runS_zero]
    simp -dsimp -implicitDefEqProofs only [go_sem, ↓reduceIte, Nat.reduceEqDiff, Nat.reduceLT, Nat.reduceAdd, Nat.reduceMul, Nat.reduceLeDiff, Nat.le_refl, Int.natCast_zero, Int.toNat_natCast, Int.reduceToNat]
    all_goals simp
  · have gi := get_some hi
    have li := lt_len hi
    have hpi := ps_num pk.ch hp hi
    have hn := runS_n l o ps i
    have hcu := runS_cuts l o ps i
    have hfa := runS_falls l o ps i
    have hfb : (ps.take i).length ≤ 1048576 := by simp; omega
    have htk : ((runS l o ps i).cuts.map eI).take o.length = (runS l o ps i).cuts.map eI := List.take_of_length_le (by simp [hcu])
    rcases Nat.lt_or_ge (runS l o ps i).n o.length with hlt | hge
    rotate_left
    · have hno : (runS l o ps i).n = o.length := by omega
      have hnl : decide (((runS l o ps i).n : Int) < o.length) = false := by simp; omega
      have hst := runS_stop l o ps i hno (ps.length - i)
      rw [show i + (ps.length - i) = ps.length by omega] at hst
      have hmd := madeS_stop l o ps i (by omega) hI (fun _ => hno)
      have hR : runR l o ps = .tup [eI (runS l o ps i).n, eI (i : Int), eI (runS l o ps i).falls, eIs (runS l o ps i).cuts] := by rw [runR, hst, hmd]
      rw [hR]
      clear hR hst hmd hI pk hp
      simp -dsimp -implicitDefEqProofs only [pick_nil, pick_cons, look_nil, look_cons, dropB_nil, dropB_cons, inD_nil, inD_cons, inE_nil, inE_cons, or_t_l, or_f_l, Nat.reduceBEq, Nat.reduceDiv, Nat.reduceAdd, beq_self_eq_true, Bool.false_eq_true, Bool.or_false, ↓reduceIte, Nat.reduceEqDiff, List.cons_append, List.nil_append]
      simp -dsimp -implicitDefEqProofs only [go_sem, ↓reduceIte, Nat.reduceEqDiff, Nat.reduceLT, Nat.reduceAdd, Nat.reduceMul, Nat.reduceLeDiff, Nat.le_refl, Int.natCast_zero, Int.toNat_natCast, Int.reduceToNat, li, gi, hnl, htk]
      repeat' first
        | (refine Br.intro (fun _ => ?_) (fun _ => ?_) <;> try simp -dsimp -implicitDefEqProofs only [go_sem, ↓reduceIte, Nat.reduceEqDiff, Nat.reduceLT, Nat.reduceAdd, Nat.reduceMul, Nat.reduceLeDiff, Nat.le_refl, Int.natCast_zero, Int.toNat_natCast, Int.reduceToNat, *])
        | (with_reducible refine And.intro ?_ ?_)
        | (refine Later.draw mixed rfl ?_; try simp -dsimp -implicitDefEqProofs only [go_sem, ↓reduceIte, Nat.reduceEqDiff, Nat.reduceLT, Nat.reduceAdd, Nat.reduceMul, Nat.reduceLeDiff, Nat.le_refl, Int.natCast_zero, Int.toNat_natCast, Int.reduceToNat, *])
      all_goals first
        | omega
        | (refine ⟨?_, ?_⟩ <;> omega)
        | rfl
        | (simp [hcu]; done)
        | (simp_all; done)
        | trace_state
    have hnl : decide (((runS l o ps i).n : Int) < o.length) = true := by simp; omega
    have hI' : ∀ j, j < i + 1 → (runS l o ps j).n ≠ o.length := fun j hj => by
      rcases Nat.lt_or_ge j i with h9 | h9
      · exact hI j h9
      · have : j = i := by omega
        subst this; omega
    have hch : ps[i].chamber.toNat < (runS l o ps i).cuts.length := by omega
    have gcu := get_some hch
    have hpc := pick_cases pk hn hpi
    have hstep := @runS_step l o ps i hi
    have hcall := c_l32Once m l o (runS l o ps i).n ps[i] pk h2 hn hpi
    clear hI
    rcases hpc with ⟨q1, q2, q3⟩ | ⟨_, q1, q2, q3⟩ | ⟨_, q1, hcl, hst, ⟨_, q2, q3⟩ | ⟨_, _, q2, q3⟩ | ⟨_, _, q2, q3⟩⟩
    · omega
    · have e := hstep q2 q3
      rw [q2] at hcall
      have e1 : decide (((runS l o ps i).n : Int) > (runS l o ps i).n) = false := by simp
      have e2 : decide (((runS l o ps i).n : Int) < (runS l o ps i).n) = false := by simp
      simp -dsimp -implicitDefEqProofs only [pick_nil, pick_cons, look_nil, look_cons, dropB_nil, dropB_cons, inD_nil, inD_cons, inE_nil, inE_cons, or_t_l, or_f_l, Nat.reduceBEq, Nat.reduceDiv, Nat.reduceAdd, beq_self_eq_true, Bool.false_eq_true, Bool.or_false, ↓reduceIte, Nat.reduceEqDiff, List.cons_append, List.nil_append]
      rw [e]
      clear e hstep q1 q2 q3 pk hp
      simp -dsimp -implicitDefEqProofs only [go_sem, ↓reduceIte, Nat.reduceEqDiff, Nat.reduceLT, Nat.reduceAdd, Nat.reduceMul, Nat.reduceLeDiff, Nat.le_refl, Int.natCast_zero, Int.toNat_natCast, Int.reduceToNat, li, gi, hnl, e1, e2]
      repeat' first
        | (refine Br.intro (fun _ => ?_) (fun _ => ?_) <;> try simp -dsimp -implicitDefEqProofs only [go_sem, ↓reduceIte, Nat.reduceEqDiff, Nat.reduceLT, Nat.reduceAdd, Nat.reduceMul, Nat.reduceLeDiff, Nat.le_refl, Int.natCast_zero, Int.toNat_natCast, Int.reduceToNat, *])
        | (with_reducible refine And.intro ?_ ?_)
        | (refine Later.draw mixed rfl ?_; try simp -dsimp -implicitDefEqProofs only [go_sem, ↓reduceIte, Nat.reduceEqDiff, Nat.reduceLT, Nat.reduceAdd, Nat.reduceMul, Nat.reduceLeDiff, Nat.le_refl, Int.natCast_zero, Int.toNat_natCast, Int.reduceToNat, *])
        | (refine sCallX_one (hcall) ?_; try simp -dsimp -implicitDefEqProofs only [go_sem, ↓reduceIte, Nat.reduceEqDiff, Nat.reduceLT, Nat.reduceAdd, Nat.reduceMul, Nat.reduceLeDiff, Nat.le_refl, Int.natCast_zero, Int.toNat_natCast, Int.reduceToNat, *])
      all_goals first
        | omega
        | (refine ⟨?_, ?_⟩ <;> omega)
        | exact hI'
        | rfl
        | (simp_all; done)
        | trace_state
    · have e := hstep q2 q3
      rw [q2] at hcall
      have e1 : decide ((((runS l o ps i).n + 1 : Nat) : Int) > (runS l o ps i).n) = true := by simp; omega
      have e2 : decide ((((runS l o ps i).n + 1 : Nat) : Int) < (runS l o ps i).n) = false := by simp; omega
      have e3 : ¬ ((runS l o ps i).n + 1 < (runS l o ps i).n) := by omega
      rw [if_neg e3, if_pos rfl] at e
      simp -dsimp -implicitDefEqProofs only [pick_nil, pick_cons, look_nil, look_cons, dropB_nil, dropB_cons, inD_nil, inD_cons, inE_nil, inE_cons, or_t_l, or_f_l, Nat.reduceBEq, Nat.reduceDiv, Nat.reduceAdd, beq_self_eq_true, Bool.false_eq_true, Bool.or_false, ↓reduceIte, Nat.reduceEqDiff, List.cons_append, List.nil_append]
      rw [e]
      clear e hstep q1 q2 q3 pk hp e3
      simp -dsimp -implicitDefEqProofs only [go_sem, ↓reduceIte, Nat.reduceEqDiff, Nat.reduceLT, Nat.reduceAdd, Nat.reduceMul, Nat.reduceLeDiff, Nat.le_refl, Int.natCast_zero, Int.toNat_natCast, Int.reduceToNat, li, gi, hnl, e1, e2]
      repeat' first
        | (refine Br.intro (fun _ => ?_) (fun _ => ?_) <;> try simp -dsimp -implicitDefEqProofs only [go_sem, ↓reduceIte, Nat.reduceEqDiff, Nat.reduceLT, Nat.reduceAdd, Nat.reduceMul, Nat.reduceLeDiff, Nat.le_refl, Int.natCast_zero, Int.toNat_natCast, Int.reduceToNat, *])
        | (with_reducible refine And.intro ?_ ?_)
        | (refine Later.draw mixed rfl ?_; try simp -dsimp -implicitDefEqProofs only [go_sem, ↓reduceIte, Nat.reduceEqDiff, Nat.reduceLT, Nat.reduceAdd, Nat.reduceMul, Nat.reduceLeDiff, Nat.le_refl, Int.natCast_zero, Int.toNat_natCast, Int.reduceToNat, *])
        | (refine sCallX_one (hcall) ?_; try simp -dsimp -implicitDefEqProofs only [go_sem, ↓reduceIte, Nat.reduceEqDiff, Nat.reduceLT, Nat.reduceAdd, Nat.reduceMul, Nat.reduceLeDiff, Nat.le_refl, Int.natCast_zero, Int.toNat_natCast, Int.reduceToNat, *])
      all_goals first
        | omega
        | (refine ⟨?_, ?_⟩ <;> omega)
        | exact hI'
        | rfl
        | (simp_all; done)
        | (rw [List.map_set]; done)
        | trace_state
    · have e := hstep q2 q3
      rw [q2] at hcall
      rw [if_neg (by decide)] at e
      rcases Nat.eq_zero_or_pos (runS l o ps i).n with hz | hz
      · have e1 : decide (((0 : Nat) : Int) > (runS l o ps i).n) = false := by simp
        have e2 : decide (((0 : Nat) : Int) < (runS l o ps i).n) = false := by simp [hz]
        rw [if_neg (by omega)] at e
        simp -dsimp -implicitDefEqProofs only [pick_nil, pick_cons, look_nil, look_cons, dropB_nil, dropB_cons, inD_nil, inD_cons, inE_nil, inE_cons, or_t_l, or_f_l, Nat.reduceBEq, Nat.reduceDiv, Nat.reduceAdd, beq_self_eq_true, Bool.false_eq_true, Bool.or_false, ↓reduceIte, Nat.reduceEqDiff, List.cons_append, List.nil_append]
        rw [e]
        clear e hstep q1 q2 q3 pk hp hz
        simp -dsimp -implicitDefEqProofs only [go_sem, ↓reduceIte, Nat.reduceEqDiff, Nat.reduceLT, Nat.reduceAdd, Nat.reduceMul, Nat.reduceLeDiff, Nat.le_refl, Int.natCast_zero, Int.toNat_natCast, Int.reduceToNat, li, gi, hnl, e1, e2]
        repeat' first
          | (refine Br.intro (fun _ => ?_) (fun _ => ?_) <;> try simp -dsimp -implicitDefEqProofs only [go_sem, ↓reduceIte, Nat.reduceEqDiff, Nat.reduceLT, Nat.reduceAdd, Nat.reduceMul, Nat.reduceLeDiff, Nat.le_refl, Int.natCast_zero, Int.toNat_natCast, Int.reduceToNat, *])
          | (with_reducible refine And.intro ?_ ?_)
          | (refine Later.draw mixed rfl ?_; try simp -dsimp -implicitDefEqProofs only [go_sem, ↓reduceIte, Nat.reduceEqDiff, Nat.reduceLT, Nat.reduceAdd, Nat.reduceMul, Nat.reduceLeDiff, Nat.le_refl, Int.natCast_zero, Int.toNat_natCast, Int.reduceToNat, *])
          | (refine sCallX_one (hcall) ?_; try simp -dsimp -implicitDefEqProofs only [go_sem, ↓reduceIte, Nat.reduceEqDiff, Nat.reduceLT, Nat.reduceAdd, Nat.reduceMul, Nat.reduceLeDiff, Nat.le_refl, Int.natCast_zero, Int.toNat_natCast, Int.reduceToNat, *])
        all_goals first
          | omega
          | (refine ⟨?_, ?_⟩ <;> omega)
          | exact hI'
          | rfl
          | (simp_all; done)
          | trace_state
      · have e1 : decide (((0 : Nat) : Int) > (runS l o ps i).n) = false := by simp
        have e2 : decide (((0 : Nat) : Int) < (runS l o ps i).n) = true := by simp; omega
        rw [if_pos hz] at e
        simp -dsimp -implicitDefEqProofs only [pick_nil, pick_cons, look_nil, look_cons, dropB_nil, dropB_cons, inD_nil, inD_cons, inE_nil, inE_cons, or_t_l, or_f_l, Nat.reduceBEq, Nat.reduceDiv, Nat.reduceAdd, beq_self_eq_true, Bool.false_eq_true, Bool.or_false, ↓reduceIte, Nat.reduceEqDiff, List.cons_append, List.nil_append]
        rw [e]
        clear e hstep q1 q2 q3 pk hp hz
        simp -dsimp -implicitDefEqProofs only [go_sem, ↓reduceIte, Nat.reduceEqDiff, Nat.reduceLT, Nat.reduceAdd, Nat.reduceMul, Nat.reduceLeDiff, Nat.le_refl, Int.natCast_zero, Int.toNat_natCast, Int.reduceToNat, li, gi, hnl, e1, e2]
        repeat' first
          | (refine Br.intro (fun _ => ?_) (fun _ => ?_) <;> try simp -dsimp -implicitDefEqProofs only [go_sem, ↓reduceIte, Nat.reduceEqDiff, Nat.reduceLT, Nat.reduceAdd, Nat.reduceMul, Nat.reduceLeDiff, Nat.le_refl, Int.natCast_zero, Int.toNat_natCast, Int.reduceToNat, *])
          | (with_reducible refine And.intro ?_ ?_)
          | (refine Later.draw mixed rfl ?_; try simp -dsimp -implicitDefEqProofs only [go_sem, ↓reduceIte, Nat.reduceEqDiff, Nat.reduceLT, Nat.reduceAdd, Nat.reduceMul, Nat.reduceLeDiff, Nat.le_refl, Int.natCast_zero, Int.toNat_natCast, Int.reduceToNat, *])
          | (refine sCallX_one (hcall) ?_; try simp -dsimp -implicitDefEqProofs only [go_sem, ↓reduceIte, Nat.reduceEqDiff, Nat.reduceLT, Nat.reduceAdd, Nat.reduceMul, Nat.reduceLeDiff, Nat.le_refl, Int.natCast_zero, Int.toNat_natCast, Int.reduceToNat, *])
        all_goals first
          | omega
          | (refine ⟨?_, ?_⟩ <;> omega)
          | exact hI'
          | rfl
          | (simp_all; done)
          | trace_state
    · have e := hstep q2 q3
      rw [q2] at hcall
      have e1 : decide (((runS l o ps i).n : Int) > (runS l o ps i).n) = false := by simp
      have e2 : decide (((runS l o ps i).n : Int) < (runS l o ps i).n) = false := by simp
      simp -dsimp -implicitDefEqProofs only [pick_nil, pick_cons, look_nil, look_cons, dropB_nil, dropB_cons, inD_nil, inD_cons, inE_nil, inE_cons, or_t_l, or_f_l, Nat.reduceBEq, Nat.reduceDiv, Nat.reduceAdd, beq_self_eq_true, Bool.false_eq_true, Bool.or_false, ↓reduceIte, Nat.reduceEqDiff, List.cons_append, List.nil_append]
      rw [e]
      clear e hstep q1 q2 q3 pk hp
      simp -dsimp -implicitDefEqProofs only [go_sem, ↓reduceIte, Nat.reduceEqDiff, Nat.reduceLT, Nat.reduceAdd, Nat.reduceMul, Nat.reduceLeDiff, Nat.le_refl, Int.natCast_zero, Int.toNat_natCast, Int.reduceToNat, li, gi, hnl, e1, e2]
      repeat' first
        | (refine Br.intro (fun _ => ?_) (fun _ => ?_) <;> try simp -dsimp -implicitDefEqProofs only [go_sem, ↓reduceIte, Nat.reduceEqDiff, Nat.reduceLT, Nat.reduceAdd, Nat.reduceMul, Nat.reduceLeDiff, Nat.le_refl, Int.natCast_zero, Int.toNat_natCast, Int.reduceToNat, *])
        | (with_reducible refine And.intro ?_ ?_)
        | (refine Later.draw mixed rfl ?_; try simp -dsimp -implicitDefEqProofs only [go_sem, ↓reduceIte, Nat.reduceEqDiff, Nat.reduceLT, Nat.reduceAdd, Nat.reduceMul, Nat.reduceLeDiff, Nat.le_refl, Int.natCast_zero, Int.toNat_natCast, Int.reduceToNat, *])
        | (refine sCallX_one (hcall) ?_; try simp -dsimp -implicitDefEqProofs only [go_sem, ↓reduceIte, Nat.reduceEqDiff, Nat.reduceLT, Nat.reduceAdd, Nat.reduceMul, Nat.reduceLeDiff, Nat.le_refl, Int.natCast_zero, Int.toNat_natCast, Int.reduceToNat, *])
      all_goals first
        | omega
        | (refine ⟨?_, ?_⟩ <;> omega)
        | exact hI'
        | rfl
        | (simp_all; done)
        | trace_state
  · have hcu := runS_cuts l o ps ps.length
    have htk : ((runS l o ps ps.length).cuts.map eI).take o.length = (runS l o ps ps.length).cuts.map eI := List.take_of_length_le (by simp [hcu])
    have hmd := madeS_stop l o ps ps.length (Nat.le_refl _) hI (fun h => absurd h (Nat.lt_irrefl _))
    have hR : runR l o ps = .tup [eI (runS l o ps ps.length).n, eI (ps.length : Int), eI (runS l o ps ps.length).falls, eIs (runS l o ps ps.length).cuts] := by rw [runR, hmd]
    rw [hR]
    clear hR hmd
    simp -dsimp -implicitDefEqProofs only [pick_nil, pick_cons, look_nil, look_cons, dropB_nil, dropB_cons, inD_nil, inD_cons, inE_nil, inE_cons, or_t_l, or_f_l, Nat.reduceBEq, Nat.reduceDiv, Nat.reduceAdd, beq_self_eq_true, Bool.false_eq_true, Bool.or_false, ↓reduceIte, Nat.reduceEqDiff, List.cons_append, List.nil_append]
    simp -dsimp -implicitDefEqProofs only [go_sem, ↓reduceIte, Nat.reduceEqDiff, Nat.reduceLT, Nat.reduceAdd, Nat.reduceMul, Nat.reduceLeDiff, Nat.le_refl, Int.natCast_zero, Int.toNat_natCast, Int.reduceToNat, nlt_len, htk]
    repeat' first
      | (refine Br.intro (fun _ => ?_) (fun _ => ?_) <;> try simp -dsimp -implicitDefEqProofs only [go_sem, ↓reduceIte, Nat.reduceEqDiff, Nat.reduceLT, Nat.reduceAdd, Nat.reduceMul, Nat.reduceLeDiff, Nat.le_refl, Int.natCast_zero, Int.toNat_natCast, Int.reduceToNat, *])
      | (with_reducible refine And.intro ?_ ?_)
    all_goals first
      | omega
      | rfl
      | (simp [hcu]; done)
      | trace_state
end Go.Vc
