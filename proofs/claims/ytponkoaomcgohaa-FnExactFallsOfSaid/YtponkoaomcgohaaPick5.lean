/-
  A lock picked by many picks: the body, stepped through.
-/
import Derived.Test.YtponkoaomcgohaaPick4
set_option linter.unusedVariables false
set_option linter.unusedSimpArgs false
set_option linter.unnecessarySimpa false
namespace Go.Vc
open Go.Proofs
set_option maxRecDepth 100000
abbrev pkBox (l : List (List Int)) (o : List Int) (x : PS) : Blk := .box 0 [eIss l, eIs o, eI x.n, .ref 16 0 0 o.length, eI x.falls]
set_option maxHeartbeats 4000000 in
theorem vc_pickLock (m : MkM) (l : List (List Int)) (o : List Int) (ps : List PkM) (pk : Pk m l o) (h2 : ∀ x ∈ l, x.length ≤ 1048576) (hp : ps.all (pickOk m) = true) (h5 : ps.length ≤ 1048576) (K : AV → Mem → Prop)
    (hk1 : K (.tup [.ptr 18 0 0 0, eI (madeS l o ps)]) [(18, pkBox l o (runS l o ps ps.length)), (16, .row 0 ⟨1, false⟩ true ((runS l o ps ps.length).cuts.map eI)), (3, .box 0 [eIss l]), (1500000005, .box 0 [eIss l]), (1500000004, .box 0 [eI m.chambers, eI m.depths, eI m.step, eI m.same, eI m.least])])
    (hk2 : ∀ p : PkM, K (.tup [.ptr 18 0 0 0, eI (madeS l o ps)]) [(11, .box 0 [eI p.chamber, eI p.depth]), (11, .box 0 [eI 0, eI 0]), (18, pkBox l o (runS l o ps ps.length)), (16, .row 0 ⟨1, false⟩ true ((runS l o ps ps.length).cuts.map eI)), (3, .box 0 [eIss l]), (1500000005, .box 0 [eIss l]), (1500000004, .box 0 [eI m.chambers, eI m.depths, eI m.step, eI m.same, eI m.least])]) :
    ∀ c, Try.f64.body = some c → vc Try.prog 35 c (argsE 0 [eLk l, eIs o, ePs ps]) [(1500000005, .box 0 [eIss l]), (1500000004, .box 0 [eI m.chambers, eI m.depths, eI m.step, eI m.same, eI m.least])] (finI Try.prog [.tmp 6, .tmp 7] K) := by
  intro c hc
  have hc9 := Option.some.inj hc
  clear hc
  subst hc9
  have n6 := pk.n6
  simp -dsimp -implicitDefEqProofs only [go_sem, ↓reduceIte, Nat.reduceEqDiff, Nat.reduceLT, Nat.reduceAdd, Nat.reduceMul, Nat.reduceLeDiff, Nat.le_refl, Int.natCast_zero, Int.toNat_natCast, Int.reduceToNat]
  repeat' first
    | (with_reducible refine And.intro ?_ ?_)
    | (refine Later.draw mixed rfl ?_; try simp -dsimp -implicitDefEqProofs only [go_sem, ↓reduceIte, Nat.reduceEqDiff, Nat.reduceLT, Nat.reduceAdd, Nat.reduceMul, Nat.reduceLeDiff, Nat.le_refl, Int.natCast_zero, Int.toNat_natCast, Int.reduceToNat])
  all_goals try (first | omega | (refine ⟨?_, ?_⟩ <;> omega) | (exact rfl) | (simp; done))
  refine Later.up [8, 19, 20] [11, 26, 29] [16, 18, 500003] ps.length (fun i => ∀ j, j < i → (runS l o ps j).n ≠ o.length) (fun i => [(9, eI i), (21, eI i)])
    (fun i => [(18, pkBox l o (runS l o ps i)), (16, .row 0 ⟨1, false⟩ true ((runS l o ps i).cuts.map eI))]) (fun j hj => absurd hj (Nat.not_lt_zero _)) ?_ rfl (fun i hi hI => ?_) (fun hI => ?_)
  · rw [runS_zero]
    simp -dsimp -implicitDefEqProofs only [go_sem, ↓reduceIte, Nat.reduceEqDiff, Nat.reduceLT, Nat.reduceAdd, Nat.reduceMul, Nat.reduceLeDiff, Nat.le_refl, Int.natCast_zero, Int.toNat_natCast, Int.reduceToNat]
    all_goals simp
  · have gi := get_some hi
    have li := lt_len hi
    have hpi := ps_num pk.ch hp hi
    have hn := runS_n l o ps i
    have hcu := runS_cuts l o ps i
    have hfa := runS_falls l o ps i
    have hfb : (ps.take i).length ≤ 1048576 := by simp; omega
    rcases Nat.lt_or_ge (runS l o ps i).n o.length with hlt | hge
    rotate_left
    · have hno : (runS l o ps i).n = o.length := by omega
      have hd : (((runS l o ps i).n : Int) == o.length) = true := by simp [hno]
      have hst := runS_stop l o ps i hno (ps.length - i)
      rw [show i + (ps.length - i) = ps.length by omega] at hst
      have hmd := madeS_stop l o ps i (by omega) hI (fun _ => hno)
      have hk := hk2 ps[i]
      rw [hst, hmd] at hk
      clear hst hmd hI pk hp hk1 hk2 hno hge
      simp -dsimp -implicitDefEqProofs only [pick_nil, pick_cons, look_nil, look_cons, dropB_nil, dropB_cons, inD_nil, inD_cons, inE_nil, inE_cons, or_t_l, or_f_l, Nat.reduceBEq, Nat.reduceDiv, Nat.reduceAdd, beq_self_eq_true, Bool.false_eq_true, Bool.or_false, ↓reduceIte, Nat.reduceEqDiff, List.cons_append, List.nil_append]
      simp -dsimp -implicitDefEqProofs only [go_sem, ↓reduceIte, Nat.reduceEqDiff, Nat.reduceLT, Nat.reduceAdd, Nat.reduceMul, Nat.reduceLeDiff, Nat.le_refl, Int.natCast_zero, Int.toNat_natCast, Int.reduceToNat, li, gi]
      refine ⟨⟨by omega, by omega⟩, ?_⟩
      refine sCallT_inl 400000 13 [.tmp 2] Try.func56 rfl rfl rfl rfl rfl (by exact of_decide_eq_true rfl) ?_
      simp -dsimp -implicitDefEqProofs only [go_sem, ↓reduceIte, Nat.reduceEqDiff, Nat.reduceLT, Nat.reduceAdd, Nat.reduceMul, Nat.reduceLeDiff, Nat.le_refl, Int.natCast_zero, Int.toNat_natCast, Int.reduceToNat, hd]
      repeat' first
        | (refine Br.intro (fun _ => ?_) (fun _ => ?_) <;> try simp -dsimp -implicitDefEqProofs only [go_sem, ↓reduceIte, Nat.reduceEqDiff, Nat.reduceLT, Nat.reduceAdd, Nat.reduceMul, Nat.reduceLeDiff, Nat.le_refl, Int.natCast_zero, Int.toNat_natCast, Int.reduceToNat, *])
        | (with_reducible refine And.intro ?_ ?_)
        | (refine Later.draw mixed rfl ?_; try simp -dsimp -implicitDefEqProofs only [go_sem, ↓reduceIte, Nat.reduceEqDiff, Nat.reduceLT, Nat.reduceAdd, Nat.reduceMul, Nat.reduceLeDiff, Nat.le_refl, Int.natCast_zero, Int.toNat_natCast, Int.reduceToNat, *])
      all_goals first
        | omega
        | (exact rfl)
        | exact hk
        | trace_state
    have hd : (((runS l o ps i).n : Int) == o.length) = false := by simp; omega
    have hI' : ∀ j, j < i + 1 → (runS l o ps j).n ≠ o.length := fun j hj => by
      rcases Nat.lt_or_ge j i with h9 | h9
      · exact hI j h9
      · have : j = i := by omega
        subst this; omega
    have hch : ps[i].chamber.toNat < (runS l o ps i).cuts.length := by omega
    have gcu := get_some hch
    have hpc := pick_cases pk hn hpi
    have hstep := @runS_step l o ps i hi
    have gn := get_some hlt
    clear hI hk1 hk2 pk hp
    rcases hpc with ⟨q1, q2, q3⟩ | ⟨_, q1, q2, q3⟩ | ⟨_, q1, hcl, hst, q⟩
    · omega
    · have e := hstep q2 q3
      rw [if_neg (Nat.lt_irrefl _), if_neg (by decide)] at e
      have hne : (o[(runS l o ps i).n] != ps[i].chamber) = true := by simp [q1]
      simp -dsimp -implicitDefEqProofs only [pick_nil, pick_cons, look_nil, look_cons, dropB_nil, dropB_cons, inD_nil, inD_cons, inE_nil, inE_cons, or_t_l, or_f_l, Nat.reduceBEq, Nat.reduceDiv, Nat.reduceAdd, beq_self_eq_true, Bool.false_eq_true, Bool.or_false, ↓reduceIte, Nat.reduceEqDiff, List.cons_append, List.nil_append]
      rw [e]
      clear e hstep q1 q2 q3
      simp -dsimp -implicitDefEqProofs only [go_sem, ↓reduceIte, Nat.reduceEqDiff, Nat.reduceLT, Nat.reduceAdd, Nat.reduceMul, Nat.reduceLeDiff, Nat.le_refl, Int.natCast_zero, Int.toNat_natCast, Int.reduceToNat, li, gi]
      refine ⟨⟨by omega, by omega⟩, ?_⟩
      refine sCallT_inl 400000 13 [.tmp 2] Try.func56 rfl rfl rfl rfl rfl (by exact of_decide_eq_true rfl) ?_
      simp -dsimp -implicitDefEqProofs only [go_sem, ↓reduceIte, Nat.reduceEqDiff, Nat.reduceLT, Nat.reduceAdd, Nat.reduceMul, Nat.reduceLeDiff, Nat.le_refl, Int.natCast_zero, Int.toNat_natCast, Int.reduceToNat, hd]
      (repeat' (first | (refine Br.intro (fun _ => ?_) (fun _ => ?_) <;> try simp -dsimp -implicitDefEqProofs only [go_sem, ↓reduceIte, Nat.reduceEqDiff, Nat.reduceLT, Nat.reduceAdd, Nat.reduceMul, Nat.reduceLeDiff, Nat.le_refl, Int.natCast_zero, Int.toNat_natCast, Int.reduceToNat, *]) | (with_reducible refine And.intro ?_ ?_) | (refine Later.draw mixed rfl ?_; try simp -dsimp -implicitDefEqProofs only [go_sem, ↓reduceIte, Nat.reduceEqDiff, Nat.reduceLT, Nat.reduceAdd, Nat.reduceMul, Nat.reduceLeDiff, Nat.le_refl, Int.natCast_zero, Int.toNat_natCast, Int.reduceToNat, *])))
      all_goals try (first | omega | (exact rfl))
      refine sCallT_inl 500000 84 [.tmp 4] Try.func57 rfl rfl rfl rfl rfl (by exact of_decide_eq_true rfl) ?_
      simp -dsimp -implicitDefEqProofs only [go_sem, ↓reduceIte, Nat.reduceEqDiff, Nat.reduceLT, Nat.reduceAdd, Nat.reduceMul, Nat.reduceLeDiff, Nat.le_refl, Int.natCast_zero, Int.toNat_natCast, Int.reduceToNat, hd, gn, hne]
      ((repeat' (first | (refine Br.intro (fun _ => ?_) (fun _ => ?_) <;> try simp -dsimp -implicitDefEqProofs only [go_sem, ↓reduceIte, Nat.reduceEqDiff, Nat.reduceLT, Nat.reduceAdd, Nat.reduceMul, Nat.reduceLeDiff, Nat.le_refl, Int.natCast_zero, Int.toNat_natCast, Int.reduceToNat, *]) | (with_reducible refine And.intro ?_ ?_) | (refine Later.draw mixed rfl ?_; try simp -dsimp -implicitDefEqProofs only [go_sem, ↓reduceIte, Nat.reduceEqDiff, Nat.reduceLT, Nat.reduceAdd, Nat.reduceMul, Nat.reduceLeDiff, Nat.le_refl, Int.natCast_zero, Int.toNat_natCast, Int.reduceToNat, *]) | (refine sCallT_one (c_Contains z ps[i].depth hx) ?_; try simp -dsimp -implicitDefEqProofs only [go_sem, ↓reduceIte, Nat.reduceEqDiff, Nat.reduceLT, Nat.reduceAdd, Nat.reduceMul, Nat.reduceLeDiff, Nat.le_refl, Int.natCast_zero, Int.toNat_natCast, Int.reduceToNat, *]))); all_goals try (first | omega | (refine ⟨?_, ?_⟩ <;> omega) | (exact rfl) | (exact hI') | (simp; done) | (simp; omega) | (rw [List.map_set]; done) | trace_state))
    · have hne : (o[(runS l o ps i).n] != ps[i].chamber) = false := by simp [q1]
      have gc := get_some hcl
      have hlt2 : l[ps[i].chamber.toNat].length - 1 < l[ps[i].chamber.toNat].length := by omega
      have gL : l[ps[i].chamber.toNat][((l[ps[i].chamber.toNat].length : Int) - 1).toNat]? = some l[ps[i].chamber.toNat][l[ps[i].chamber.toNat].length - 1] := by rw [pred_toNat hst]; exact get_some hlt2
      have hx := h2 _ (List.getElem_mem hcl)
      clear q1
      generalize l[ps[i].chamber.toNat] = z at *
      rcases q with ⟨q1, q2, q3⟩ | ⟨q1, q4, q2, q3⟩ | ⟨q1, q4, q2, q3⟩
      · have e := hstep q2 q3
        rw [if_pos rfl, if_neg (by omega)] at e
        simp -dsimp -implicitDefEqProofs only [pick_nil, pick_cons, look_nil, look_cons, dropB_nil, dropB_cons, inD_nil, inD_cons, inE_nil, inE_cons, or_t_l, or_f_l, Nat.reduceBEq, Nat.reduceDiv, Nat.reduceAdd, beq_self_eq_true, Bool.false_eq_true, Bool.or_false, ↓reduceIte, Nat.reduceEqDiff, List.cons_append, List.nil_append]
        rw [e]
        clear e hstep q2 q3
        simp -dsimp -implicitDefEqProofs only [go_sem, ↓reduceIte, Nat.reduceEqDiff, Nat.reduceLT, Nat.reduceAdd, Nat.reduceMul, Nat.reduceLeDiff, Nat.le_refl, Int.natCast_zero, Int.toNat_natCast, Int.reduceToNat, li, gi]
        refine ⟨⟨by omega, by omega⟩, ?_⟩
        refine sCallT_inl 400000 13 [.tmp 2] Try.func56 rfl rfl rfl rfl rfl (by exact of_decide_eq_true rfl) ?_
        simp -dsimp -implicitDefEqProofs only [go_sem, ↓reduceIte, Nat.reduceEqDiff, Nat.reduceLT, Nat.reduceAdd, Nat.reduceMul, Nat.reduceLeDiff, Nat.le_refl, Int.natCast_zero, Int.toNat_natCast, Int.reduceToNat, hd]
        (repeat' (first | (refine Br.intro (fun _ => ?_) (fun _ => ?_) <;> try simp -dsimp -implicitDefEqProofs only [go_sem, ↓reduceIte, Nat.reduceEqDiff, Nat.reduceLT, Nat.reduceAdd, Nat.reduceMul, Nat.reduceLeDiff, Nat.le_refl, Int.natCast_zero, Int.toNat_natCast, Int.reduceToNat, *]) | (with_reducible refine And.intro ?_ ?_) | (refine Later.draw mixed rfl ?_; try simp -dsimp -implicitDefEqProofs only [go_sem, ↓reduceIte, Nat.reduceEqDiff, Nat.reduceLT, Nat.reduceAdd, Nat.reduceMul, Nat.reduceLeDiff, Nat.le_refl, Int.natCast_zero, Int.toNat_natCast, Int.reduceToNat, *])))
        all_goals try (first | omega | (exact rfl))
        refine sCallT_inl 500000 84 [.tmp 4] Try.func57 rfl rfl rfl rfl rfl (by exact of_decide_eq_true rfl) ?_
        simp -dsimp -implicitDefEqProofs only [go_sem, ↓reduceIte, Nat.reduceEqDiff, Nat.reduceLT, Nat.reduceAdd, Nat.reduceMul, Nat.reduceLeDiff, Nat.le_refl, Int.natCast_zero, Int.toNat_natCast, Int.reduceToNat, hd, gn, hne, gc]
        ((repeat' (first | (refine Br.intro (fun _ => ?_) (fun _ => ?_) <;> try simp -dsimp -implicitDefEqProofs only [go_sem, ↓reduceIte, Nat.reduceEqDiff, Nat.reduceLT, Nat.reduceAdd, Nat.reduceMul, Nat.reduceLeDiff, Nat.le_refl, Int.natCast_zero, Int.toNat_natCast, Int.reduceToNat, *]) | (with_reducible refine And.intro ?_ ?_) | (refine Later.draw mixed rfl ?_; try simp -dsimp -implicitDefEqProofs only [go_sem, ↓reduceIte, Nat.reduceEqDiff, Nat.reduceLT, Nat.reduceAdd, Nat.reduceMul, Nat.reduceLeDiff, Nat.le_refl, Int.natCast_zero, Int.toNat_natCast, Int.reduceToNat, *]) | (refine sCallT_one (c_Contains z ps[i].depth hx) ?_; try simp -dsimp -implicitDefEqProofs only [go_sem, ↓reduceIte, Nat.reduceEqDiff, Nat.reduceLT, Nat.reduceAdd, Nat.reduceMul, Nat.reduceLeDiff, Nat.le_refl, Int.natCast_zero, Int.toNat_natCast, Int.reduceToNat, *]))); all_goals try (first | omega | (refine ⟨?_, ?_⟩ <;> omega) | (exact rfl) | (exact hI') | (simp; done) | (simp; omega) | (rw [List.map_set]; done) | trace_state))
      · have e := hstep q2 q3
        have hgt : decide (ps[i].depth > z[z.length - 1]) = true := by rw [getElem!_pos z (z.length - 1) hlt2] at q4; exact decide_eq_true q4
        rcases Nat.eq_zero_or_pos (runS l o ps i).n with hz | hz
        · have hp0 : decide (((runS l o ps i).n : Int) > 0) = false := by simp [hz]
          rw [if_neg (by decide), if_neg (by omega)] at e
          simp -dsimp -implicitDefEqProofs only [pick_nil, pick_cons, look_nil, look_cons, dropB_nil, dropB_cons, inD_nil, inD_cons, inE_nil, inE_cons, or_t_l, or_f_l, Nat.reduceBEq, Nat.reduceDiv, Nat.reduceAdd, beq_self_eq_true, Bool.false_eq_true, Bool.or_false, ↓reduceIte, Nat.reduceEqDiff, List.cons_append, List.nil_append]
          rw [e]
          clear e hstep q2 q3 q4 hz
          simp -dsimp -implicitDefEqProofs only [go_sem, ↓reduceIte, Nat.reduceEqDiff, Nat.reduceLT, Nat.reduceAdd, Nat.reduceMul, Nat.reduceLeDiff, Nat.le_refl, Int.natCast_zero, Int.toNat_natCast, Int.reduceToNat, li, gi]
          refine ⟨⟨by omega, by omega⟩, ?_⟩
          refine sCallT_inl 400000 13 [.tmp 2] Try.func56 rfl rfl rfl rfl rfl (by exact of_decide_eq_true rfl) ?_
          simp -dsimp -implicitDefEqProofs only [go_sem, ↓reduceIte, Nat.reduceEqDiff, Nat.reduceLT, Nat.reduceAdd, Nat.reduceMul, Nat.reduceLeDiff, Nat.le_refl, Int.natCast_zero, Int.toNat_natCast, Int.reduceToNat, hd]
          (repeat' (first | (refine Br.intro (fun _ => ?_) (fun _ => ?_) <;> try simp -dsimp -implicitDefEqProofs only [go_sem, ↓reduceIte, Nat.reduceEqDiff, Nat.reduceLT, Nat.reduceAdd, Nat.reduceMul, Nat.reduceLeDiff, Nat.le_refl, Int.natCast_zero, Int.toNat_natCast, Int.reduceToNat, *]) | (with_reducible refine And.intro ?_ ?_) | (refine Later.draw mixed rfl ?_; try simp -dsimp -implicitDefEqProofs only [go_sem, ↓reduceIte, Nat.reduceEqDiff, Nat.reduceLT, Nat.reduceAdd, Nat.reduceMul, Nat.reduceLeDiff, Nat.le_refl, Int.natCast_zero, Int.toNat_natCast, Int.reduceToNat, *])))
          all_goals try (first | omega | (exact rfl))
          refine sCallT_inl 500000 84 [.tmp 4] Try.func57 rfl rfl rfl rfl rfl (by exact of_decide_eq_true rfl) ?_
          simp -dsimp -implicitDefEqProofs only [go_sem, ↓reduceIte, Nat.reduceEqDiff, Nat.reduceLT, Nat.reduceAdd, Nat.reduceMul, Nat.reduceLeDiff, Nat.le_refl, Int.natCast_zero, Int.toNat_natCast, Int.reduceToNat, hd, gn, hne, gc]
          ((repeat' (first | (refine Br.intro (fun _ => ?_) (fun _ => ?_) <;> try simp -dsimp -implicitDefEqProofs only [go_sem, ↓reduceIte, Nat.reduceEqDiff, Nat.reduceLT, Nat.reduceAdd, Nat.reduceMul, Nat.reduceLeDiff, Nat.le_refl, Int.natCast_zero, Int.toNat_natCast, Int.reduceToNat, *]) | (with_reducible refine And.intro ?_ ?_) | (refine Later.draw mixed rfl ?_; try simp -dsimp -implicitDefEqProofs only [go_sem, ↓reduceIte, Nat.reduceEqDiff, Nat.reduceLT, Nat.reduceAdd, Nat.reduceMul, Nat.reduceLeDiff, Nat.le_refl, Int.natCast_zero, Int.toNat_natCast, Int.reduceToNat, *]) | (refine sCallT_one (c_Contains z ps[i].depth hx) ?_; try simp -dsimp -implicitDefEqProofs only [go_sem, ↓reduceIte, Nat.reduceEqDiff, Nat.reduceLT, Nat.reduceAdd, Nat.reduceMul, Nat.reduceLeDiff, Nat.le_refl, Int.natCast_zero, Int.toNat_natCast, Int.reduceToNat, *]))); all_goals try (first | omega | (refine ⟨?_, ?_⟩ <;> omega) | (exact rfl) | (exact hI') | (simp; done) | (simp; omega) | (rw [List.map_set]; done) | trace_state))
        · have hp0 : decide (((runS l o ps i).n : Int) > 0) = true := by simp; omega
          rw [if_neg (by decide), if_pos hz] at e
          simp -dsimp -implicitDefEqProofs only [pick_nil, pick_cons, look_nil, look_cons, dropB_nil, dropB_cons, inD_nil, inD_cons, inE_nil, inE_cons, or_t_l, or_f_l, Nat.reduceBEq, Nat.reduceDiv, Nat.reduceAdd, beq_self_eq_true, Bool.false_eq_true, Bool.or_false, ↓reduceIte, Nat.reduceEqDiff, List.cons_append, List.nil_append]
          rw [e]
          clear e hstep q2 q3 q4 hz
          simp -dsimp -implicitDefEqProofs only [go_sem, ↓reduceIte, Nat.reduceEqDiff, Nat.reduceLT, Nat.reduceAdd, Nat.reduceMul, Nat.reduceLeDiff, Nat.le_refl, Int.natCast_zero, Int.toNat_natCast, Int.reduceToNat, li, gi]
          refine ⟨⟨by omega, by omega⟩, ?_⟩
          refine sCallT_inl 400000 13 [.tmp 2] Try.func56 rfl rfl rfl rfl rfl (by exact of_decide_eq_true rfl) ?_
          simp -dsimp -implicitDefEqProofs only [go_sem, ↓reduceIte, Nat.reduceEqDiff, Nat.reduceLT, Nat.reduceAdd, Nat.reduceMul, Nat.reduceLeDiff, Nat.le_refl, Int.natCast_zero, Int.toNat_natCast, Int.reduceToNat, hd]
          (repeat' (first | (refine Br.intro (fun _ => ?_) (fun _ => ?_) <;> try simp -dsimp -implicitDefEqProofs only [go_sem, ↓reduceIte, Nat.reduceEqDiff, Nat.reduceLT, Nat.reduceAdd, Nat.reduceMul, Nat.reduceLeDiff, Nat.le_refl, Int.natCast_zero, Int.toNat_natCast, Int.reduceToNat, *]) | (with_reducible refine And.intro ?_ ?_) | (refine Later.draw mixed rfl ?_; try simp -dsimp -implicitDefEqProofs only [go_sem, ↓reduceIte, Nat.reduceEqDiff, Nat.reduceLT, Nat.reduceAdd, Nat.reduceMul, Nat.reduceLeDiff, Nat.le_refl, Int.natCast_zero, Int.toNat_natCast, Int.reduceToNat, *])))
          all_goals try (first | omega | (exact rfl))
          refine sCallT_inl 500000 84 [.tmp 4] Try.func57 rfl rfl rfl rfl rfl (by exact of_decide_eq_true rfl) ?_
          simp -dsimp -implicitDefEqProofs only [go_sem, ↓reduceIte, Nat.reduceEqDiff, Nat.reduceLT, Nat.reduceAdd, Nat.reduceMul, Nat.reduceLeDiff, Nat.le_refl, Int.natCast_zero, Int.toNat_natCast, Int.reduceToNat, hd, gn, hne, gc]
          ((repeat' (first | (refine Br.intro (fun _ => ?_) (fun _ => ?_) <;> try simp -dsimp -implicitDefEqProofs only [go_sem, ↓reduceIte, Nat.reduceEqDiff, Nat.reduceLT, Nat.reduceAdd, Nat.reduceMul, Nat.reduceLeDiff, Nat.le_refl, Int.natCast_zero, Int.toNat_natCast, Int.reduceToNat, *]) | (with_reducible refine And.intro ?_ ?_) | (refine Later.draw mixed rfl ?_; try simp -dsimp -implicitDefEqProofs only [go_sem, ↓reduceIte, Nat.reduceEqDiff, Nat.reduceLT, Nat.reduceAdd, Nat.reduceMul, Nat.reduceLeDiff, Nat.le_refl, Int.natCast_zero, Int.toNat_natCast, Int.reduceToNat, *]) | (refine sCallT_one (c_Contains z ps[i].depth hx) ?_; try simp -dsimp -implicitDefEqProofs only [go_sem, ↓reduceIte, Nat.reduceEqDiff, Nat.reduceLT, Nat.reduceAdd, Nat.reduceMul, Nat.reduceLeDiff, Nat.le_refl, Int.natCast_zero, Int.toNat_natCast, Int.reduceToNat, *]))); all_goals try (first | omega | (refine ⟨?_, ?_⟩ <;> omega) | (exact rfl) | (exact hI') | (simp; done) | (simp; omega) | (rw [List.map_set]; done) | trace_state))
      · have e := hstep q2 q3
        have hgt : decide (ps[i].depth > z[z.length - 1]) = false := by rw [getElem!_pos z (z.length - 1) hlt2] at q4; exact decide_eq_false q4
        rw [if_neg (by decide), if_neg (Nat.lt_irrefl _)] at e
        simp -dsimp -implicitDefEqProofs only [pick_nil, pick_cons, look_nil, look_cons, dropB_nil, dropB_cons, inD_nil, inD_cons, inE_nil, inE_cons, or_t_l, or_f_l, Nat.reduceBEq, Nat.reduceDiv, Nat.reduceAdd, beq_self_eq_true, Bool.false_eq_true, Bool.or_false, ↓reduceIte, Nat.reduceEqDiff, List.cons_append, List.nil_append]
        rw [e]
        clear e hstep q2 q3 q4
        simp -dsimp -implicitDefEqProofs only [go_sem, ↓reduceIte, Nat.reduceEqDiff, Nat.reduceLT, Nat.reduceAdd, Nat.reduceMul, Nat.reduceLeDiff, Nat.le_refl, Int.natCast_zero, Int.toNat_natCast, Int.reduceToNat, li, gi]
        refine ⟨⟨by omega, by omega⟩, ?_⟩
        refine sCallT_inl 400000 13 [.tmp 2] Try.func56 rfl rfl rfl rfl rfl (by exact of_decide_eq_true rfl) ?_
        simp -dsimp -implicitDefEqProofs only [go_sem, ↓reduceIte, Nat.reduceEqDiff, Nat.reduceLT, Nat.reduceAdd, Nat.reduceMul, Nat.reduceLeDiff, Nat.le_refl, Int.natCast_zero, Int.toNat_natCast, Int.reduceToNat, hd]
        (repeat' (first | (refine Br.intro (fun _ => ?_) (fun _ => ?_) <;> try simp -dsimp -implicitDefEqProofs only [go_sem, ↓reduceIte, Nat.reduceEqDiff, Nat.reduceLT, Nat.reduceAdd, Nat.reduceMul, Nat.reduceLeDiff, Nat.le_refl, Int.natCast_zero, Int.toNat_natCast, Int.reduceToNat, *]) | (with_reducible refine And.intro ?_ ?_) | (refine Later.draw mixed rfl ?_; try simp -dsimp -implicitDefEqProofs only [go_sem, ↓reduceIte, Nat.reduceEqDiff, Nat.reduceLT, Nat.reduceAdd, Nat.reduceMul, Nat.reduceLeDiff, Nat.le_refl, Int.natCast_zero, Int.toNat_natCast, Int.reduceToNat, *])))
        all_goals try (first | omega | (exact rfl))
        refine sCallT_inl 500000 84 [.tmp 4] Try.func57 rfl rfl rfl rfl rfl (by exact of_decide_eq_true rfl) ?_
        simp -dsimp -implicitDefEqProofs only [go_sem, ↓reduceIte, Nat.reduceEqDiff, Nat.reduceLT, Nat.reduceAdd, Nat.reduceMul, Nat.reduceLeDiff, Nat.le_refl, Int.natCast_zero, Int.toNat_natCast, Int.reduceToNat, hd, gn, hne, gc]
        ((repeat' (first | (refine Br.intro (fun _ => ?_) (fun _ => ?_) <;> try simp -dsimp -implicitDefEqProofs only [go_sem, ↓reduceIte, Nat.reduceEqDiff, Nat.reduceLT, Nat.reduceAdd, Nat.reduceMul, Nat.reduceLeDiff, Nat.le_refl, Int.natCast_zero, Int.toNat_natCast, Int.reduceToNat, *]) | (with_reducible refine And.intro ?_ ?_) | (refine Later.draw mixed rfl ?_; try simp -dsimp -implicitDefEqProofs only [go_sem, ↓reduceIte, Nat.reduceEqDiff, Nat.reduceLT, Nat.reduceAdd, Nat.reduceMul, Nat.reduceLeDiff, Nat.le_refl, Int.natCast_zero, Int.toNat_natCast, Int.reduceToNat, *]) | (refine sCallT_one (c_Contains z ps[i].depth hx) ?_; try simp -dsimp -implicitDefEqProofs only [go_sem, ↓reduceIte, Nat.reduceEqDiff, Nat.reduceLT, Nat.reduceAdd, Nat.reduceMul, Nat.reduceLeDiff, Nat.le_refl, Int.natCast_zero, Int.toNat_natCast, Int.reduceToNat, *]))); all_goals try (first | omega | (refine ⟨?_, ?_⟩ <;> omega) | (exact rfl) | (exact hI') | (simp; done) | (simp; omega) | (rw [List.map_set]; done) | trace_state))
  · have hmd := madeS_stop l o ps ps.length (Nat.le_refl _) hI (fun h => absurd h (Nat.lt_irrefl _))
    rw [hmd] at hk1
    clear hk2
    simp -dsimp -implicitDefEqProofs only [pick_nil, pick_cons, look_nil, look_cons, dropB_nil, dropB_cons, inD_nil, inD_cons, inE_nil, inE_cons, or_t_l, or_f_l, Nat.reduceBEq, Nat.reduceDiv, Nat.reduceAdd, beq_self_eq_true, Bool.false_eq_true, Bool.or_false, ↓reduceIte, Nat.reduceEqDiff, List.cons_append, List.nil_append]
    simp -dsimp -implicitDefEqProofs only [go_sem, ↓reduceIte, Nat.reduceEqDiff, Nat.reduceLT, Nat.reduceAdd, Nat.reduceMul, Nat.reduceLeDiff, Nat.le_refl, Int.natCast_zero, Int.toNat_natCast, Int.reduceToNat, nlt_len]
    repeat' first
      | (refine Br.intro (fun _ => ?_) (fun _ => ?_) <;> try simp -dsimp -implicitDefEqProofs only [go_sem, ↓reduceIte, Nat.reduceEqDiff, Nat.reduceLT, Nat.reduceAdd, Nat.reduceMul, Nat.reduceLeDiff, Nat.le_refl, Int.natCast_zero, Int.toNat_natCast, Int.reduceToNat, *])
      | (with_reducible refine And.intro ?_ ?_)
    all_goals first
      | omega
      | rfl
      | exact hk1
      | trace_state
end Go.Vc
