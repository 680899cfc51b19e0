import Derived.Test.YtgdjpnahpanaoaaGreatDoorPkLawOrdersE
open Bool renaming false_eq_true → uq0, or_false → uq1
open List renaming cons_append → uq2, nil_append → uq3, take_of_length_le → uq4
set_option linter.unusedVariables false
set_option linter.unusedSimpArgs false
set_option linter.unnecessarySimpa false
namespace Go.Vc
open Go.Proofs
set_option maxRecDepth 100000
set_option maxHeartbeats 4000000
set_option maxHeartbeats 16000000 in
theorem c_l15ValidR (v : Nat) (bs : List UInt8) (s : Src) (h : SrcOk s) (hl : bs.length ≤ 4096) :
    FnMR Tryz.prog 96 [srcB v bs s] [.ptr 1000000000 v 0 0] (fun x io => x = eSy (mkV bs s).1 (sysT bs s).1 ∧ io = [srcB v bs (sysT bs s).2]) := by
  refine FnMR.of_vc 70 [.cell 2 28] Tryz.func96 rfl rfl rfl rfl rfl (of_decide_eq_true rfl) ?_
  have qm := fun v => c_l02Valid v bs s h hl
  have hm := mkV_ok bs h
  have hrc := sysRC bs h
  have hz := sysZ_ok bs h
  have er : 1 + (nx bs 4 (mkV bs s).2).1 = (sysR bs s : Int) := by
    have := (nx_ok bs 4 hm.1).1
    unfold sysR; omega
  have ec : 1 + (nx bs 4 (nx bs 4 (mkV bs s).2).2).1 = (sysC bs s : Int) := by
    have := (nx_ok bs 4 (nx_ok bs 4 hm.1).2.2.2).1
    unfold sysC; omega
  have qr := fun v => c_l01Next v bs 4 (mkV bs s).2 hm.1 hl
  have hr := nx_ok bs 4 hm.1
  have qc := fun v => c_l01Next v bs 4 (nx bs 4 (mkV bs s).2).2 hr.2.2.2 hl
  have hc := nx_ok bs 4 hr.2.2.2
  have c3 := hc.2.2.1 (by omega)
  have r3 := hr.2.2.1 (by omega)
  have htz := fun i => ztabTo_ok (bs := bs) hc.2.2.2 (sysC bs s) i
  have qa := fun v => c_l01Next v bs (sysR bs s) (sysZ bs s).2 hz.1 hl
  have ha := nx_ok bs (sysR bs s) hz.1
  have hal := nx_lt bs (n := sysR bs s) hrc.1.1 hz.1
  have eZ : sysZ bs s = ztabTo bs (sysC bs s) (nx bs 4 (nx bs 4 (mkV bs s).2).2).2 (sysR bs s) := rfl
  have eA : sysA bs s = nx bs (sysR bs s) (sysZ bs s).2 := rfl
  have eT : sysT bs s = fillTo bs (sysR bs s) (sysA bs s).1.toNat ((sysZ bs s).1, (sysA bs s).2) (sysC bs s) := rfl
  rw [eT, eA]
  clear eT eA
  have hf := fun k => fillTo_ok (bs := bs) (r := sysR bs s) (c := sysC bs s) (a := (nx bs (sysR bs s) (sysZ bs s).2).1.toNat) (z := ((sysZ bs s).1, (nx bs (sysR bs s) (sysZ bs s).2).2)) ha.2.2.2 hz.2.1 hz.2.2 k
  generalize nx bs (sysR bs s) (sysZ bs s).2 = na at *
  generalize sysZ bs s = Z at *
  generalize sysR bs s = r at *
  generalize sysC bs s = c at *
  generalize nx bs 4 (nx bs 4 (mkV bs s).2).2 = nc at *
  generalize nx bs 4 (mkV bs s).2 = nr at *
  generalize mkV bs s = M at *
  obtain ⟨M, s1⟩ := M
  simp only at er qr hm ⊢
  simp -dsimp -implicitDefEqProofs only [go_sem, ↓reduceIte]
  refine sCallT_io [1000000000] ?_
  simp -dsimp -implicitDefEqProofs only [go_sem, ↓reduceIte]
  refine sCallM_one (qm _) ?_
  simp -dsimp -implicitDefEqProofs only [go_sem, ↓reduceIte]
  (refine sCallT_io [1000000000] ?_; simp -dsimp -implicitDefEqProofs only [go_sem, ↓reduceIte]; refine sCallM_one (qr _) ?_; simp -dsimp -implicitDefEqProofs only [go_sem, ↓reduceIte])
  ((repeat' (with_reducible refine And.intro ?_ ?_)); all_goals try (first | omega | (refine ⟨?_, ?_⟩ <;> omega) | (exact rfl)))
  (refine sCallT_io [1000000000] ?_; simp -dsimp -implicitDefEqProofs only [go_sem, ↓reduceIte]; refine sCallM_one (qc _) ?_; simp -dsimp -implicitDefEqProofs only [go_sem, ↓reduceIte])
  ((repeat' (with_reducible refine And.intro ?_ ?_)); all_goals try (first | omega | (refine ⟨?_, ?_⟩ <;> omega) | (exact rfl)))
  rw [er, ec]
  refine Later.upP [0, 2, 3, 4, 5] [26, 34, 35, 36, 37, 40, 41] [20, 26, 34, 1000000000] r (fun _ => True) (fun i => [(7, eI i), (6, .ref 20 0 0 i)]) (fun i => [(20, .row 0 ⟨1, false⟩ true ((ztabTo bs c nc.2 i).1.map eIs)), (1000000000, srcB v bs (ztabTo bs c nc.2 i).2)]) trivial (.here ?_) rfl (fun i hi _ => ?_) (fun _ => ?_)
  · simp -dsimp -implicitDefEqProofs only [go_sem, ↓reduceIte, ztabTo]
    ((repeat' (with_reducible refine And.intro ?_ ?_)); all_goals try (first | omega | (refine ⟨?_, ?_⟩ <;> omega) | (exact rfl)))
  · refine Later.vc rfl ?_
    obtain ⟨o1, o2, o3⟩ := htz i
    have hlt : decide ((i : Int) < r) = true := decide_eq_true (by omega)
    have hrok := fun k => zrowTo_ok (bs := bs) o1 k
    rw [ztabTo_succ]
    clear eZ hf
    generalize ztabTo bs c nc.2 i = T at *
    have tT := tk eIs T.1 i (by omega)
    simp -dsimp -implicitDefEqProofs only [pick_nil, pick_cons, look_nil, look_cons, dropB_nil, dropB_cons, inD_nil, inD_cons, inE_nil, inE_cons, or_t_l, or_f_l, Nat.reduceBEq, Nat.reduceDiv, Nat.reduceAdd, beq_self_eq_true, uq0, uq1, ↓reduceIte, Nat.reduceEqDiff, uq2, uq3]
    simp -dsimp -implicitDefEqProofs only [go_sem, ↓reduceIte, hlt]
    refine Later.upP [0, 2, 3, 4, 5, 6, 7] [34, 35, 36, 37] [26, 34, 1000000000] c (fun _ => True) (fun k => [(9, eI k), (8, .ref 26 0 0 k)]) (fun k => [(26, .row 0 ⟨1, false⟩ true ((zrowTo bs T.2 k).1.map eI)), (1000000000, srcB v bs (zrowTo bs T.2 k).2)]) trivial (.here ?_) rfl (fun k hk _ => ?_) (fun _ => ?_)
    · simp -dsimp -implicitDefEqProofs only [go_sem, ↓reduceIte, zrowTo]
      ((repeat' (with_reducible refine And.intro ?_ ?_)); all_goals try (first | omega | (refine ⟨?_, ?_⟩ <;> omega) | (exact rfl)))
    · refine Later.vc rfl ?_
      obtain ⟨p1, p2⟩ := hrok k
      have hlt : decide ((k : Int) < c) = true := decide_eq_true (by omega)
      rw [zrowTo_succ]
      generalize zrowTo bs T.2 k = R at *
      have qp := fun v v2 => c_l01Pick v v2 true bs [0, 0, 1] _ R.2 rfl (by simp) (by simp) p1 hl
      generalize pk bs [0, 0, 1] R.2 = pp at *
      have tR := tk eI R.1 k (by omega)
      simp -dsimp -implicitDefEqProofs only [pick_nil, pick_cons, look_nil, look_cons, dropB_nil, dropB_cons, inD_nil, inD_cons, inE_nil, inE_cons, or_t_l, or_f_l, Nat.reduceBEq, Nat.reduceDiv, Nat.reduceAdd, beq_self_eq_true, uq0, uq1, ↓reduceIte, Nat.reduceEqDiff, uq2, uq3]
      simp -dsimp -implicitDefEqProofs only [go_sem, ↓reduceIte, hlt]
      ((repeat' (with_reducible refine And.intro ?_ ?_)); all_goals try (first | omega | (refine ⟨?_, ?_⟩ <;> omega) | (exact rfl)))
      (refine sCallT_io [1000000000, 34] ?_; simp -dsimp -implicitDefEqProofs only [go_sem, ↓reduceIte]; refine sCallM_one (qp _ _) ?_; simp -dsimp -implicitDefEqProofs only [go_sem, ↓reduceIte])
      ((repeat' (with_reducible refine And.intro ?_ ?_)); all_goals try (first | omega | (refine ⟨?_, ?_⟩ <;> omega) | (exact rfl)))
      all_goals first | (refine .here ?_; simp -dsimp -implicitDefEqProofs only [go_sem, ↓reduceIte, tR]; ((repeat' (with_reducible refine And.intro ?_ ?_)); all_goals try (first | omega | (refine ⟨?_, ?_⟩ <;> omega) | (exact rfl))); all_goals first | (simp; done) | trace_state) | trace_state
    · obtain ⟨p1, p2⟩ := hrok c
      generalize zrowTo bs T.2 c = R at *
      refine Later.known 8 26 0 c ⟨1, false⟩ _ rfl (by decide) rfl (by simp [p2]) (by omega) (by decide) fun u => ?_
      refine Later.vc rfl ?_
      have hge : decide ((c : Int) < c) = false := decide_eq_false (by omega)
      have e2 : (T.1.map eIs ++ [AV.val u]).set i (.arr ⟨1, false⟩ (R.1.map eI)) = (T.1 ++ [R.1]).map eIs := by
        rw [List.set_append_right _ _ (by simp [o2])]
        simp [o2, eIs]
      simp -dsimp -implicitDefEqProofs only [pick_nil, pick_cons, look_nil, look_cons, dropB_nil, dropB_cons, inD_nil, inD_cons, inE_nil, inE_cons, or_t_l, or_f_l, Nat.reduceBEq, Nat.reduceDiv, Nat.reduceAdd, beq_self_eq_true, uq0, uq1, ↓reduceIte, Nat.reduceEqDiff, uq2, uq3]
      simp -dsimp -implicitDefEqProofs only [go_sem, ↓reduceIte, hge, tT]
      ((repeat' (with_reducible refine And.intro ?_ ?_)); all_goals try (first | omega | (refine ⟨?_, ?_⟩ <;> omega) | (exact rfl)))
      all_goals first
        | (refine RefP.back 20 1 i 26 0 _ _ _ u (by decide) rfl (by simp [o2]) rfl (.here ?_)
           rw [e2]
           simp -dsimp -implicitDefEqProofs only [go_sem, ↓reduceIte]
           ((repeat' (with_reducible refine And.intro ?_ ?_)); all_goals try (first | omega | (refine ⟨?_, ?_⟩ <;> omega) | (exact rfl)))
           all_goals trace_state)
        | trace_state
  · rw [← eZ]
    clear eZ htz
    obtain ⟨z1, z2, z3⟩ := hz
    have hge : decide ((r : Int) < r) = false := decide_eq_false (by omega)
    refine Later.vc rfl ?_
    simp -dsimp -implicitDefEqProofs only [pick_nil, pick_cons, look_nil, look_cons, dropB_nil, dropB_cons, inD_nil, inD_cons, inE_nil, inE_cons, or_t_l, or_f_l, Nat.reduceBEq, Nat.reduceDiv, Nat.reduceAdd, beq_self_eq_true, uq0, uq1, ↓reduceIte, Nat.reduceEqDiff, uq2, uq3]
    simp -dsimp -implicitDefEqProofs only [go_sem, ↓reduceIte, hge]
    (refine sCallT_io [1000000000] ?_; simp -dsimp -implicitDefEqProofs only [go_sem, ↓reduceIte]; refine sCallM_one (qa _) ?_; simp -dsimp -implicitDefEqProofs only [go_sem, ↓reduceIte])
    ((repeat' (with_reducible refine And.intro ?_ ?_)); all_goals try (first | omega | (refine ⟨?_, ?_⟩ <;> omega) | (exact rfl)))
    refine Later.upP [0, 2, 3, 4, 5, 6, 10] [51, 62] [20, 1000000000] c (fun _ => True) (fun k => [(11, eI k)]) (fun k => [(20, .row 0 ⟨1, false⟩ true ((fillTo bs r na.1.toNat (Z.1, na.2) k).1.map eIs)), (1000000000, srcB v bs (fillTo bs r na.1.toNat (Z.1, na.2) k).2)]) trivial (.here ?_) rfl (fun k hk _ => ?_) (fun _ => ?_)
    · simp -dsimp -implicitDefEqProofs only [go_sem, ↓reduceIte, fillTo]
      ((repeat' (with_reducible refine And.intro ?_ ?_)); all_goals try (first | omega | (refine ⟨?_, ?_⟩ <;> omega) | (exact rfl)))
    · obtain ⟨f1, f2, f3⟩ := hf k
      have hlt : decide ((k : Int) < c) = true := decide_eq_true (by omega)
      rw [fillTo_succ]
      generalize fillTo bs r na.1.toNat (Z.1, na.2) k = F at *
      obtain ⟨T, s0⟩ := F
      simp only at f1 f2 f3
      have q3 := fun v => c_l01Next v bs 3 s0 f1 hl
      have n3 := nx_ok bs 3 f1
      simp only [fillA]
      generalize nx bs 3 s0 = a3 at *
      have qj := fun v => c_l01Next v bs r a3.2 n3.2.2.2 hl
      have nj := nx_lt bs (n := r) hrc.1.1 n3.2.2.2
      generalize nx bs r a3.2 = aj at *
      have hA : na.1.toNat < T.length := by omega
      have hJ : aj.1.toNat < T.length := by omega
      have lA : (T.getD na.1.toNat []).length = c := by
        rw [List.getD_eq_getElem?_getD, List.getElem?_eq_getElem hA]; exact f3 _ (List.getElem_mem hA)
      have lJ : (T.getD aj.1.toNat []).length = c := by
        rw [List.getD_eq_getElem?_getD, List.getElem?_eq_getElem hJ]; exact f3 _ (List.getElem_mem hJ)
      have gA := getArr hA
      have gJ := getArr hJ
      cases hc3 : decide (a3.1 > 0) with
      | false =>
        rw [if_neg (by simp)]
        have e2 := setAt_map T aj.1.toNat k
        generalize T.getD aj.1.toNat [] = R at *
        have gk := get_some (show k < R.length by omega)
        refine Later.takeOut 20 0 aj.1.toNat 91 _ _ ⟨1, false⟩ (by decide) rfl gJ (by simp; omega) rfl fun u => ?_
        have gu : ((T.map eIs).set aj.1.toNat (.val u))[aj.1.toNat]? = some (.val u) := by simp [hJ]
        refine Later.vc rfl ?_
        simp -dsimp -implicitDefEqProofs only [pick_nil, pick_cons, look_nil, look_cons, dropB_nil, dropB_cons, inD_nil, inD_cons, inE_nil, inE_cons, or_t_l, or_f_l, Nat.reduceBEq, Nat.reduceDiv, Nat.reduceAdd, beq_self_eq_true, uq0, uq1, ↓reduceIte, Nat.reduceEqDiff, uq2, uq3]
        simp -dsimp -implicitDefEqProofs only [go_sem, ↓reduceIte, hlt]
        (refine sCallT_io [1000000000] ?_; simp -dsimp -implicitDefEqProofs only [go_sem, ↓reduceIte]; refine sCallM_one (q3 _) ?_; simp -dsimp -implicitDefEqProofs only [go_sem, ↓reduceIte])
        ((repeat' (with_reducible refine And.intro ?_ ?_)); all_goals try (first | omega | (refine ⟨?_, ?_⟩ <;> omega) | (exact rfl)))
        simp -dsimp -implicitDefEqProofs only [go_sem, ↓reduceIte, hc3]
        (refine sCallT_io [1000000000] ?_; simp -dsimp -implicitDefEqProofs only [go_sem, ↓reduceIte]; refine sCallM_one (qj _) ?_; simp -dsimp -implicitDefEqProofs only [go_sem, ↓reduceIte])
        simp -dsimp -implicitDefEqProofs only [go_sem, ↓reduceIte, gu, gk]
        ((repeat' (with_reducible refine And.intro ?_ ?_)); all_goals try (first | omega | (refine ⟨?_, ?_⟩ <;> omega) | (exact rfl)))
        all_goals first
          | (refine RefP.back 20 0 aj.1.toNat 91 0 _ _ _ u (by decide) rfl gu rfl (.here ?_)
             rw [List.set_set, e2]
             simp -dsimp -implicitDefEqProofs only [go_sem, ↓reduceIte]
             ((repeat' (with_reducible refine And.intro ?_ ?_)); all_goals try (first | omega | (refine ⟨?_, ?_⟩ <;> omega) | (exact rfl)))
             all_goals trace_state)
          | trace_state
      | true =>
        rw [if_pos rfl]
        by_cases hAJ : na.1.toNat = aj.1.toNat
        · have e3 := setAt_map (setAt T na.1.toNat k) na.1.toNat k
          rw [setAt_self hA] at e3
          have e4 : (setAt T na.1.toNat k).map eIs = (T.map eIs).set na.1.toNat (eIs ((T.getD na.1.toNat []).set k 1)) := by simp [setAt, List.map_set]
          rw [e4, List.set_set] at e3
          clear e4
          rw [← hAJ]
          have hJj : aj.1 = na.1 := by omega
          generalize T.getD na.1.toNat [] = R at *
          have gk := get_some (show k < R.length by omega)
          have gk2 : ((R.map eI).set k (eI 1))[k]? = some (eI 1) := List.getElem?_set_self (by rw [List.length_map]; omega)
          refine Later.takeOut 20 0 na.1.toNat 91 _ _ ⟨1, false⟩ (by decide) rfl gA (by simp; omega) rfl fun u => ?_
          have gu : ((T.map eIs).set na.1.toNat (.val u))[na.1.toNat]? = some (.val u) := by simp [hA]
          refine Later.vc rfl ?_
          simp -dsimp -implicitDefEqProofs only [pick_nil, pick_cons, look_nil, look_cons, dropB_nil, dropB_cons, inD_nil, inD_cons, inE_nil, inE_cons, or_t_l, or_f_l, Nat.reduceBEq, Nat.reduceDiv, Nat.reduceAdd, beq_self_eq_true, uq0, uq1, ↓reduceIte, Nat.reduceEqDiff, uq2, uq3]
          simp -dsimp -implicitDefEqProofs only [go_sem, ↓reduceIte, hlt]
          (refine sCallT_io [1000000000] ?_; simp -dsimp -implicitDefEqProofs only [go_sem, ↓reduceIte]; refine sCallM_one (q3 _) ?_; simp -dsimp -implicitDefEqProofs only [go_sem, ↓reduceIte])
          ((repeat' (with_reducible refine And.intro ?_ ?_)); all_goals try (first | omega | (refine ⟨?_, ?_⟩ <;> omega) | (exact rfl)))
          simp -dsimp -implicitDefEqProofs only [go_sem, ↓reduceIte, hc3, gu, gk]
          ((repeat' (with_reducible refine And.intro ?_ ?_)); all_goals try (first | omega | (refine ⟨?_, ?_⟩ <;> omega) | (exact rfl)))
          (refine sCallT_io [1000000000] ?_; simp -dsimp -implicitDefEqProofs only [go_sem, ↓reduceIte]; refine sCallM_one (qj _) ?_; simp -dsimp -implicitDefEqProofs only [go_sem, ↓reduceIte])
          rw [hJj]
          simp -dsimp -implicitDefEqProofs only [go_sem, ↓reduceIte, gu, gk2]
          ((repeat' (with_reducible refine And.intro ?_ ?_)); all_goals try (first | omega | (refine ⟨?_, ?_⟩ <;> omega) | (exact rfl)))
          all_goals first
            | (refine RefP.back 20 0 na.1.toNat 91 0 _ _ _ u (by decide) rfl gu rfl (.here ?_)
               rw [List.set_set]
               simp -dsimp -implicitDefEqProofs only [go_sem, ↓reduceIte]
               ((repeat' (with_reducible refine And.intro ?_ ?_)); all_goals try (first | omega | (refine ⟨?_, ?_⟩ <;> omega) | (exact rfl)))
               all_goals first | (rw [← e3, List.map_set]; done) | trace_state)
            | trace_state
        · have e3 := setAt_map (setAt T na.1.toNat k) aj.1.toNat k
          rw [setAt_get hAJ] at e3
          have e4 := setAt_map T na.1.toNat k
          generalize T.getD na.1.toNat [] = R at *
          generalize T.getD aj.1.toNat [] = R2 at *
          have gk := get_some (show k < R.length by omega)
          have gk2 := get_some (show k < R2.length by omega)
          refine Later.takeOut 20 0 aj.1.toNat 91 _ _ ⟨1, false⟩ (by decide) rfl gJ (by simp; omega) rfl fun u2 => ?_
          refine Later.takeOut 20 0 na.1.toNat 90 _ _ ⟨1, false⟩ (by decide) rfl (by rw [List.getElem?_set_ne (Ne.symm hAJ)]; exact gA) (by simp; omega) rfl fun u => ?_
          have gu : (((T.map eIs).set aj.1.toNat (.val u2)).set na.1.toNat (.val u))[na.1.toNat]? = some (.val u) := by simp [hA]
          have gu2 : (((T.map eIs).set aj.1.toNat (.val u2)).set na.1.toNat (.val u))[aj.1.toNat]? = some (.val u2) := by rw [List.getElem?_set_ne hAJ]; simp [hJ]
          have e5 : ((((T.map eIs).set aj.1.toNat (.val u2)).set na.1.toNat (.val u)).set na.1.toNat (.arr ⟨1, false⟩ ((R.map eI).set k (eI 1)))).set aj.1.toNat (.arr ⟨1, false⟩ ((R2.map eI).set k (eI 1))) = (setAt (setAt T na.1.toNat k) aj.1.toNat k).map eIs := by
            rw [List.set_set, List.set_comm _ _ (Ne.symm hAJ), List.set_set, ← e3, ← e4, List.set_comm _ _ hAJ]
          refine Later.vc rfl ?_
          simp -dsimp -implicitDefEqProofs only [pick_nil, pick_cons, look_nil, look_cons, dropB_nil, dropB_cons, inD_nil, inD_cons, inE_nil, inE_cons, or_t_l, or_f_l, Nat.reduceBEq, Nat.reduceDiv, Nat.reduceAdd, beq_self_eq_true, uq0, uq1, ↓reduceIte, Nat.reduceEqDiff, uq2, uq3]
          simp -dsimp -implicitDefEqProofs only [go_sem, ↓reduceIte, hlt]
          (refine sCallT_io [1000000000] ?_; simp -dsimp -implicitDefEqProofs only [go_sem, ↓reduceIte]; refine sCallM_one (q3 _) ?_; simp -dsimp -implicitDefEqProofs only [go_sem, ↓reduceIte])
          ((repeat' (with_reducible refine And.intro ?_ ?_)); all_goals try (first | omega | (refine ⟨?_, ?_⟩ <;> omega) | (exact rfl)))
          simp -dsimp -implicitDefEqProofs only [go_sem, ↓reduceIte, hc3, gu, gk]
          ((repeat' (with_reducible refine And.intro ?_ ?_)); all_goals try (first | omega | (refine ⟨?_, ?_⟩ <;> omega) | (exact rfl)))
          refine sCallT_ioH 91 _ rfl [1000000000] ?_
          simp -dsimp -implicitDefEqProofs only [go_sem, ↓reduceIte]
          refine sCallM_one (qj _) ?_
          simp -dsimp -implicitDefEqProofs only [go_sem, ↓reduceIte, gu2, gk2]
          ((repeat' (with_reducible refine And.intro ?_ ?_)); all_goals try (first | omega | (refine ⟨?_, ?_⟩ <;> omega) | (exact rfl)))
          all_goals first
            | (refine RefP.back 20 0 na.1.toNat 90 0 _ _ _ u (by decide) rfl gu rfl ?_
               refine RefP.back 20 0 aj.1.toNat 91 0 _ _ _ u2 (by decide) rfl (by rw [List.set_set, List.getElem?_set_ne hAJ]; simp [hJ]) rfl (.here ?_)
               rw [e5]
               simp -dsimp -implicitDefEqProofs only [go_sem, ↓reduceIte]
               ((repeat' (with_reducible refine And.intro ?_ ?_)); all_goals try (first | omega | (refine ⟨?_, ?_⟩ <;> omega) | (exact rfl)))
               all_goals trace_state)
            | trace_state
    · obtain ⟨f1, f2, f3⟩ := hf c
      generalize fillTo bs r na.1.toNat (Z.1, na.2) c = F at *
      have tF := tk eIs F.1 r (by omega)
      have hge : decide ((c : Int) < c) = false := decide_eq_false (by omega)
      refine Later.vc rfl ?_
      simp -dsimp -implicitDefEqProofs only [pick_nil, pick_cons, look_nil, look_cons, dropB_nil, dropB_cons, inD_nil, inD_cons, inE_nil, inE_cons, or_t_l, or_f_l, Nat.reduceBEq, Nat.reduceDiv, Nat.reduceAdd, beq_self_eq_true, uq0, uq1, ↓reduceIte, Nat.reduceEqDiff, uq2, uq3]
      simp -dsimp -implicitDefEqProofs only [go_sem, ↓reduceIte, hge]
      ((repeat' (with_reducible refine And.intro ?_ ?_)); all_goals try (first | omega | (refine ⟨?_, ?_⟩ <;> omega) | (exact rfl)))
      all_goals first | (rw [tF]; done) | (simp; done) | trace_state
end Go.Vc


set_option linter.unusedVariables false
set_option linter.unusedSimpArgs false
set_option linter.unnecessarySimpa false
namespace Go.Vc
set_option maxRecDepth 100000
def allK (m : MkM) : List (List Int) := keysFrom m m.chambers.toNat []
structure KeyOk (m : MkM) (k : List Int) : Prop where
  len : (k.length : Int) = m.chambers
  ok : okTo m k = true
  kinds : ¬ (kindsTo k k.length : Int) < m.least
  el : ∀ x ∈ k, 0 ≤ x ∧ x < m.depths
theorem keysFrom_ok {m : MkM} : ∀ (n : Nat) (c k : List Int), okTo m c = true → (∀ x ∈ c, 0 ≤ x ∧ x < m.depths) → k ∈ keysFrom m n c → k.length = c.length + n ∧ okTo m k = true ∧ ¬ (kindsTo k k.length : Int) < m.least ∧ ∀ x ∈ k, 0 ≤ x ∧ x < m.depths
  | 0, c, k, h1, h2, h => by
    simp only [keysFrom] at h
    split at h
    · cases h
    · rename_i hk
      rw [List.mem_singleton] at h
      subst h
      exact ⟨rfl, h1, hk, h2⟩
  | n + 1, c, k, h1, h2, h => by
    simp only [keysFrom, List.mem_flatMap, List.mem_range] at h
    obtain ⟨d, hd, h⟩ := h
    split at h
    · rename_i hc
      obtain ⟨g1, g2⟩ := keysFrom_ok n (c ++ [(d : Int)]) k (by rw [okTo_snoc, h1, Bool.true_and]; exact hc) (fun x hx => by
        rcases List.mem_append.1 hx with h | h
        · exact h2 x h
        · simp at h; omega) h
      exact ⟨by rw [g1]; simp; omega, g2⟩
    · cases h
theorem allK_ok {m : MkM} (hm : 0 ≤ m.chambers) {k : List Int} (h : k ∈ allK m) : KeyOk m k := by
  obtain ⟨h1, h2, h3, h4⟩ := keysFrom_ok m.chambers.toNat [] k rfl (fun x hx => by cases hx) h
  exact ⟨by rw [h1]; simp; omega, h2, h3, h4⟩
theorem nodup_keysFrom {m : MkM} : ∀ (n : Nat) (c : List Int), (keysFrom m n c).Nodup
  | 0, c => by
    simp only [keysFrom]
    split
    · exact List.nodup_nil
    · simp
  | n + 1, c => by
    show (keysTo m n c m.depths.toNat).Nodup
    have key : ∀ D, (keysTo m n c D).Nodup := by
      intro D
      induction D with
      | zero => exact List.nodup_nil
      | succ D ih =>
        rw [keysTo_succ, List.nodup_append]
        refine ⟨ih, ?_, fun a ha b hb => ?_⟩
        · split
          · exact nodup_keysFrom n _
          · exact List.nodup_nil
        · rintro rfl
          obtain ⟨d, hd, g⟩ := keysTo_mem ha
          split at hb
          · have g2 := (keysFrom_mem m n _ a hb).1
            have e : (c ++ [(D : Int)]).length = c.length + 1 := by simp
            rw [e, g] at g2
            have := List.append_cancel_left g2
            injection this with this _
            omega
          · cases hb
    exact key _
end Go.Vc


set_option linter.unusedVariables false
set_option linter.unusedSimpArgs false
set_option linter.unnecessarySimpa false
namespace Go.Vc
open Go.Proofs
set_option maxRecDepth 100000
theorem firstD_congr {f g : Nat → Option (List Int)} : ∀ {D : Nat}, (∀ d, d < D → f d = g d) → firstD f D = firstD g D
  | 0, _ => rfl
  | D + 1, h => by
    simp only [firstD]
    rw [firstD_congr (D := D) (fun d hd => h d (by omega)), h D (by omega)]
theorem head_flat (F : Nat → List (List Int)) : ∀ D, firstD (fun d => (F d).head?) D = ((List.range D).flatMap F).head?
  | 0 => rfl
  | D + 1 => by
    rw [List.range_succ, List.flatMap_append, List.head?_append, ← head_flat F D]
    simp only [firstD, List.flatMap_cons, List.flatMap_nil, List.append_nil]
    cases firstD (fun d => (F d).head?) D <;> rfl
theorem firstK_head (m : MkM) : ∀ (n : Nat) (c : List Int), firstK m n c = if okTo m c = true then (keysFrom m n c).head? else none
  | 0, c => by
    simp only [firstK, keysFrom]
    by_cases h1 : okTo m c = true
    · rw [if_pos h1]
      by_cases h2 : m.least ≤ (kindsTo c c.length : Int)
      · rw [if_pos ⟨h1, h2⟩, if_neg (by omega)]; rfl
      · rw [if_neg (fun h => h2 h.2), if_pos (by omega)]; rfl
    · rw [if_neg (fun h => h1 h.1), if_neg h1]
  | n + 1, c => by
    simp only [firstK]
    by_cases h1 : okTo m c = true
    · rw [if_pos h1, if_pos h1]
      simp only [keysFrom]
      rw [← head_flat]
      refine firstD_congr fun d _ => ?_
      rw [firstK_head m n, okTo_snoc, h1, Bool.true_and]
      split <;> rfl
    · rw [if_neg h1, if_neg h1]
theorem flatMap_range_split (F : Nat → List (List Int)) (a : Nat) : ∀ b, (List.range (a + b)).flatMap F = (List.range a).flatMap F ++ (List.range b).flatMap fun e => F (a + e)
  | 0 => by simp
  | b + 1 => by
    rw [show a + (b + 1) = (a + b) + 1 by omega, List.range_succ, List.flatMap_append, flatMap_range_split F a b, List.range_succ, List.flatMap_append]
    simp
theorem next_behind {m : MkM} {k : List Int} (h : KeyOk m k) : ∀ j, j ≤ k.length → ∃ a b, keysFrom m j (k.take (k.length - j)) = a ++ k :: b ∧ nextTo m k j = b.head?
  | 0, _ => by
    obtain ⟨h1, h2, h3, h4⟩ := h
    refine ⟨[], [], ?_, rfl⟩
    rw [Nat.sub_zero, List.take_length, keysFrom, if_neg h3]; rfl
  | j + 1, hj => by
    obtain ⟨a, b, e1, e2⟩ := next_behind h j (by omega)
    obtain ⟨h1, h2, h3, h4⟩ := h
    have hi : k.length - 1 - j < k.length := by omega
    have hx := h4 _ (List.getElem_mem hi)
    have hg : k.getD (k.length - 1 - j) 0 = k[k.length - 1 - j] := by simp [List.getD_eq_getElem?_getD, hi]
    have ht := take_app hi
    rw [show k.length - 1 - j + 1 = k.length - j by omega, hg] at ht
    have hok := okTo_take' h2 (i := k.length - j) (by omega)
    rw [ht, okTo_snoc] at hok
    obtain ⟨hok1, hok2⟩ := Bool.and_eq_true_iff.1 hok
    have hnx : nextTo m k (j + 1) = match nextTo m k j with
      | some k => some k
      | none => firstD (fun (e : Nat) => firstK m j (k.take (k.length - 1 - j) ++ [k[k.length - 1 - j] + 1 + (e : Int)])) (m.depths - (k[k.length - 1 - j] + 1)).toNat := by
      simp only [nextTo, hg]
      cases nextTo m k j <;> rfl
    rw [show k.length - (j + 1) = k.length - 1 - j by omega]
    generalize k[k.length - 1 - j] = z at *
    generalize hp : k.take (k.length - 1 - j) = p at *
    rw [ht] at e1
    have hz : z = ((z.toNat : Nat) : Int) := by omega
    have hsp : m.depths.toNat = z.toNat + (1 + (m.depths - (z + 1)).toNat) := by omega
    let F : Nat → List (List Int) := fun d => if (stepOk m p (d : Int) && runOk m p (d : Int)) = true then keysFrom m j (p ++ [(d : Int)]) else []
    have hF : F z.toNat = a ++ k :: b := by
      show (if (stepOk m p ((z.toNat : Nat) : Int) && runOk m p ((z.toNat : Nat) : Int)) = true then keysFrom m j (p ++ [((z.toNat : Nat) : Int)]) else []) = _
      rw [← hz, if_pos hok2, e1]
    have hk : keysFrom m (j + 1) p = (List.range z.toNat).flatMap F ++ (F z.toNat ++ (List.range (m.depths - (z + 1)).toNat).flatMap fun e => F (z.toNat + (1 + e))) := by
      show (List.range m.depths.toNat).flatMap F = _
      rw [hsp, flatMap_range_split, flatMap_range_split (fun e => F (z.toNat + e)) 1]
      simp [List.range_succ]
    refine ⟨(List.range z.toNat).flatMap F ++ a, b ++ (List.range (m.depths - (z + 1)).toNat).flatMap fun e => F (z.toNat + (1 + e)), ?_, ?_⟩
    · rw [hk, hF]; simp
    · rw [hnx, e2, List.head?_append, ← head_flat]
      cases b.head? with
      | some x => rfl
      | none =>
        show firstD _ _ = _
        simp only [Option.none_or]
        refine firstD_congr fun e _ => ?_
        rw [firstK_head, okTo_snoc, hok1, Bool.true_and]
        have : z + 1 + (e : Int) = ((z.toNat + (1 + e) : Nat) : Int) := by omega
        rw [this]
        show _ = (if (stepOk m p ((z.toNat + (1 + e) : Nat) : Int) && runOk m p ((z.toNat + (1 + e) : Nat) : Int)) = true then keysFrom m j (p ++ [((z.toNat + (1 + e) : Nat) : Int)]) else []).head?
        split <;> rfl
theorem nextTo_all {m : MkM} (hm : 0 ≤ m.chambers) {a b : List (List Int)} {k : List Int} (h : allK m = a ++ k :: b) : nextTo m k k.length = b.head? := by
  have hk : k ∈ allK m := by rw [h]; simp
  have hok := allK_ok hm hk
  obtain ⟨a', b', e1, e2⟩ := next_behind hok k.length (Nat.le_refl _)
  rw [Nat.sub_self, List.take_zero] at e1
  have hl : m.chambers.toNat = k.length := by have := hok.len; omega
  have e1' : allK m = a' ++ k :: b' := by rw [allK, hl]; exact e1
  have hn := nodup_keysFrom (m := m) m.chambers.toNat []
  rw [show keysFrom m m.chambers.toNat [] = allK m from rfl, h] at hn
  rw [h] at e1'
  have : a = a' ∧ k :: b = k :: b' := by
    have key : ∀ (a a' b b' : List (List Int)), a ++ k :: b = a' ++ k :: b' → (a ++ k :: b).Nodup → a = a' ∧ b = b' := by
      intro a
      induction a with
      | nil =>
        intro a' b b' h hn
        cases a' with
        | nil => exact ⟨rfl, by simpa using h⟩
        | cons x r =>
          simp only [uq3, uq2, List.cons.injEq] at h
          obtain ⟨rfl, h⟩ := h
          simp only [uq3, List.nodup_cons] at hn
          exact absurd (by rw [h]; simp) hn.1
      | cons x r ih =>
        intro a' b b' h hn
        cases a' with
        | nil =>
          simp only [uq3, uq2, List.cons.injEq] at h
          obtain ⟨rfl, h⟩ := h
          simp only [uq2, List.nodup_cons] at hn
          exact absurd (by simp) hn.1
        | cons x' r' =>
          simp only [uq2, List.cons.injEq] at h
          obtain ⟨rfl, h⟩ := h
          simp only [uq2, List.nodup_cons] at hn
          obtain ⟨h1, h2⟩ := ih r' b b' h hn.2
          exact ⟨by rw [h1], h2⟩
    obtain ⟨h1, h2⟩ := key a a' b b' e1' hn
    exact ⟨h1, by rw [h2]⟩
  rw [e2]
  have := this.2
  simp only [List.cons.injEq, true_and] at this
  rw [this]
theorem firstK_all (m : MkM) : firstK m m.chambers.toNat [] = (allK m).head? := by
  rw [firstK_head, if_pos (show okTo m [] = true from rfl)]; rfl
end Go.Vc


set_option linter.unusedVariables false
set_option linter.unusedSimpArgs false
set_option linter.unnecessarySimpa false
namespace Go.Vc
open Go.Proofs
set_option maxRecDepth 100000
end Go.Vc


set_option linter.unusedVariables false
set_option linter.unusedSimpArgs false
set_option linter.unnecessarySimpa false
namespace Go.Vc
open Go.Proofs
set_option maxRecDepth 100000
def hullAt (keys : List (List Int)) (i : Nat) (d : Nat) : Bool := keys.any fun k => k.getD i 0 == (d : Int)
def hullSet (m : MkM) (keys : List (List Int)) (i : Nat) : List Int := flt (hullAt keys i) m.depths.toNat
def hull (m : MkM) (keys : List (List Int)) (n : Nat) : List (List Int) := (List.range n).map (hullSet m keys)
theorem hull_succ (m : MkM) (keys : List (List Int)) (n : Nat) : hull m keys (n + 1) = hull m keys n ++ [hullSet m keys n] := by simp [hull, List.range_succ]
theorem hull_zero (m : MkM) (keys : List (List Int)) : hull m keys 0 = [] := rfl
theorem hull_len (m : MkM) (keys : List (List Int)) (n : Nat) : (hull m keys n).length = n := by simp [hull]
theorem hullSet_len (m : MkM) (keys : List (List Int)) (i : Nat) : (hullSet m keys i).length ≤ m.depths.toNat := flt_len _ _
theorem hull_sets (m : MkM) (keys : List (List Int)) (n : Nat) : ∀ x ∈ hull m keys n, x.length ≤ m.depths.toNat := fun x hx => by
  simp only [hull, List.mem_map] at hx
  obtain ⟨i, _, rfl⟩ := hx
  exact hullSet_len _ _ _
theorem flt_pair (p : Nat → Bool) : ∀ n, (flt p n).Pairwise (· < ·)
  | 0 => by rw [flt_zero]; exact List.Pairwise.nil
  | n + 1 => by
    rw [flt_succ]
    split
    · refine List.pairwise_append.2 ⟨flt_pair p n, List.pairwise_singleton .., fun a ha b hb => ?_⟩
      obtain ⟨j, hj, rfl, _⟩ := flt_mem ha
      simp only [List.mem_singleton] at hb
      omega
    · exact flt_pair p n
def onTo (t cuts : List (List Int)) (k : Nat) : Nat → List (List Int)
  | 0 => []
  | i + 1 => if ((t.getD i []).getD k 0 == 1) = true then onTo t cuts k i ++ [cuts.getD i []] else onTo t cuts k i
theorem onTo_zero (t cuts : List (List Int)) (k : Nat) : onTo t cuts k 0 = [] := rfl
theorem onTo_succ (t cuts : List (List Int)) (k i : Nat) : onTo t cuts k (i + 1) = if ((t.getD i []).getD k 0 == 1) = true then onTo t cuts k i ++ [cuts.getD i []] else onTo t cuts k i := rfl
theorem onTo_len (t cuts : List (List Int)) (k : Nat) : ∀ i, (onTo t cuts k i).length ≤ i
  | 0 => Nat.le_refl _
  | i + 1 => by
    have := onTo_len t cuts k i
    rw [onTo_succ]; split
    · simp; omega
    · omega
theorem onTo_mem {t cuts : List (List Int)} {k : Nat} : ∀ {i : Nat}, i ≤ cuts.length → ∀ x ∈ onTo t cuts k i, x ∈ cuts
  | 0, _, x, hx => by cases hx
  | i + 1, hi, x, hx => by
    have ih := onTo_mem (t := t) (cuts := cuts) (k := k) (i := i) (by omega)
    rw [onTo_succ] at hx
    split at hx
    · rcases List.mem_append.1 hx with h | h
      · exact ih x h
      · simp only [List.mem_singleton] at h
        subst h
        rw [List.getD_eq_getElem?_getD, List.getElem?_eq_getElem (by omega)]
        exact List.getElem_mem _
    · exact ih x hx
def lockAt (m : MkM) (t cuts : List (List Int)) (k : Nat) : List (List Int) := hull m (onTo t cuts k cuts.length) m.chambers.toNat
theorem lockAt_len (m : MkM) (t cuts : List (List Int)) (k : Nat) : (lockAt m t cuts k).length = m.chambers.toNat := hull_len _ _ _
theorem lockAt_sets (m : MkM) (t cuts : List (List Int)) (k : Nat) : ∀ x ∈ lockAt m t cuts k, x.length ≤ m.depths.toNat := hull_sets _ _ _
def locksTo (m : MkM) (t cuts : List (List Int)) (n : Nat) : List (List (List Int)) := (List.range n).map (lockAt m t cuts)
theorem locksTo_zero (m : MkM) (t cuts : List (List Int)) : locksTo m t cuts 0 = [] := rfl
theorem locksTo_succ (m : MkM) (t cuts : List (List Int)) (n : Nat) : locksTo m t cuts (n + 1) = locksTo m t cuts n ++ [lockAt m t cuts n] := by simp [locksTo, List.range_succ]
theorem locksTo_len (m : MkM) (t cuts : List (List Int)) (n : Nat) : (locksTo m t cuts n).length = n := by simp [locksTo]
theorem locksTo_get (m : MkM) (t cuts : List (List Int)) {n k : Nat} (h : k < n) : (locksTo m t cuts n)[k]? = some (lockAt m t cuts k) := by simp [locksTo, h]
def opensL (l : List (List Int)) (c : List Int) : Bool := (List.range c.length).all fun i => has (l.getD i []) (c.getD i 0)
def fpTo (m : MkM) (t cuts : List (List Int)) (i : Nat) : Nat → List (List Int)
  | 0 => []
  | k + 1 => if (((t.getD i []).getD k 0 == 0) && opensL (lockAt m t cuts k) (cuts.getD i [])) = true then fpTo m t cuts i k ++ [[(i : Int), (k : Int)]] else fpTo m t cuts i k
theorem fpTo_zero (m : MkM) (t cuts : List (List Int)) (i : Nat) : fpTo m t cuts i 0 = [] := rfl
theorem fpTo_succ (m : MkM) (t cuts : List (List Int)) (i k : Nat) : fpTo m t cuts i (k + 1) = if (((t.getD i []).getD k 0 == 0) && opensL (lockAt m t cuts k) (cuts.getD i [])) = true then fpTo m t cuts i k ++ [[(i : Int), (k : Int)]] else fpTo m t cuts i k := rfl
theorem fpTo_len (m : MkM) (t cuts : List (List Int)) (i : Nat) : ∀ k, (fpTo m t cuts i k).length ≤ k
  | 0 => Nat.le_refl _
  | k + 1 => by
    have := fpTo_len m t cuts i k
    rw [fpTo_succ]; split
    · simp; omega
    · omega
def fprTo (m : MkM) (t cuts : List (List Int)) : Nat → List (List Int)
  | 0 => []
  | i + 1 => fprTo m t cuts i ++ fpTo m t cuts i (t.getD 0 []).length
theorem fprTo_zero (m : MkM) (t cuts : List (List Int)) : fprTo m t cuts 0 = [] := rfl
theorem fprTo_succ (m : MkM) (t cuts : List (List Int)) (i : Nat) : fprTo m t cuts (i + 1) = fprTo m t cuts i ++ fpTo m t cuts i (t.getD 0 []).length := rfl
theorem fprTo_len (m : MkM) (t cuts : List (List Int)) : ∀ i, (fprTo m t cuts i).length ≤ i * (t.getD 0 []).length
  | 0 => Nat.zero_le _
  | i + 1 => by
    have := fprTo_len m t cuts i
    have := fpTo_len m t cuts i (t.getD 0 []).length
    rw [fprTo_succ, List.length_append, Nat.succ_mul]; omega
def falses (m : MkM) (t cuts : List (List Int)) : List (List Int) := fprTo m t cuts cuts.length
end Go.Vc


set_option linter.unusedVariables false
set_option linter.unusedSimpArgs false
set_option linter.unnecessarySimpa false
namespace Go.Vc
open Go.Proofs
set_option maxRecDepth 100000
set_option maxHeartbeats 4000000
abbrev eLks (ls : List (List (List Int))) : AV := .arr ⟨1, true⟩ (ls.map eLk)
theorem take_map_all {α β : Type} (f : α → β) (l : List α) (n : Nat) (h : l.length ≤ n) : (l.map f).take n = l.map f := uq4 (by simpa using h)
theorem c_l04Hull (m : MkM) (keys : List (List Int)) (hm : isMk m = true) (h0 : keys.length ≤ 1048576) (hk3 : ∀ k ∈ keys, (k.length : Int) = m.chambers) :
    Fn Tryz.prog 305 [eMk m, eIss keys] false (· = eLk (hull m keys m.chambers.toNat)) := by
  have ⟨⟨n1, n2⟩, n3, n4⟩ := isMk_num hm
  refine Fn.of_vcS 54 [.cell 4 187] Tryz.func305 rfl rfl rfl rfl rfl (of_decide_eq_true rfl) ?_
  simp -dsimp -implicitDefEqProofs only [go_sem, ↓reduceIte]
  refine Later.up [1, 2, 4] [18, 27, 46, 47, 50, 51] [11] m.chambers.toNat (fun _ => True) (fun i => [(6, eI i), (5, .ref 11 0 0 i)]) (fun i => [(11, .row 0 ⟨1, false⟩ (i == 0) ((hull m keys i).map eIs))]) trivial ?_ rfl (fun i hi _ => ?_) (fun _ => ?_)
  · simp -dsimp -implicitDefEqProofs only [go_sem, ↓reduceIte, hull_zero]
  · have hlt : decide ((i : Int) < m.chambers) = true := decide_eq_true (by omega)
    have hhl := hull_len m keys i
    rw [hull_succ]
    unfold hullSet
    generalize hull m keys i = H at *
    simp -dsimp -implicitDefEqProofs only [pick_nil, pick_cons, look_nil, look_cons, dropB_nil, dropB_cons, inD_nil, inD_cons, inE_nil, inE_cons, or_t_l, or_f_l, Nat.reduceBEq, Nat.reduceDiv, Nat.reduceAdd, beq_self_eq_true, uq0, uq1, ↓reduceIte, Nat.reduceEqDiff, uq2, uq3]
    simp -dsimp -implicitDefEqProofs only [go_sem, ↓reduceIte, hlt]
    refine Later.up [1, 2, 4, 5, 6] [27, 46, 47] [18] m.depths.toNat (fun _ => True) (fun d => [(8, eI d), (7, .ref 18 0 0 (flt (hullAt keys i) d).length)]) (fun d => [(18, .row 0 ⟨1, false⟩ true ((flt (hullAt keys i) d).map eI))]) trivial ?_ rfl (fun d hd _ => ?_) (fun _ => ?_)
    · simp -dsimp -implicitDefEqProofs only [go_sem, ↓reduceIte, flt_zero]
    · have hltd : decide ((d : Int) < m.depths) = true := decide_eq_true (by omega)
      have hfl := flt_len (hullAt keys i) d
      rw [flt_succ]
      have hany : hullAt keys i d = (keys.take keys.length).any fun x => x.getD i 0 == (d : Int) := by rw [List.take_length]; rfl
      rw [hany]
      clear hany
      generalize flt (hullAt keys i) d = F at *
      simp -dsimp -implicitDefEqProofs only [pick_nil, pick_cons, look_nil, look_cons, dropB_nil, dropB_cons, inD_nil, inD_cons, inE_nil, inE_cons, or_t_l, or_f_l, Nat.reduceBEq, Nat.reduceDiv, Nat.reduceAdd, beq_self_eq_true, uq0, uq1, ↓reduceIte, Nat.reduceEqDiff, uq2, uq3]
      simp -dsimp -implicitDefEqProofs only [go_sem, ↓reduceIte, hltd]
      refine Later.up [1, 2, 4, 5, 6, 7, 8] [27] [] keys.length (fun _ => True) (fun k => [(10, eI k), (9, eB ((keys.take k).any fun x => x.getD i 0 == (d : Int)))]) (fun _ => []) trivial ?_ rfl (fun k hk' _ => ?_) (fun _ => ?_)
      · simp -dsimp -implicitDefEqProofs only [go_sem, ↓reduceIte]
        exact rfl
      · have hkl : i < keys[k].length := by have := hk3 _ (List.getElem_mem hk'); omega
        have gk := get_some hk'
        have gi := get_some hkl
        have hgd : keys[k].getD i 0 = keys[k][i] := by simp [List.getD_eq_getElem?_getD, hkl]
        rw [any_take _ _ _ hk', hgd]
        have lk := lt_len hk'
        generalize keys[k] = x at *
        generalize x[i] = z at *
        generalize ((keys.take k).any fun x => x.getD i 0 == (d : Int)) = b at *
        simp -dsimp -implicitDefEqProofs only [pick_nil, pick_cons, look_nil, look_cons, dropB_nil, dropB_cons, inD_nil, inD_cons, inE_nil, inE_cons, or_t_l, or_f_l, Nat.reduceBEq, Nat.reduceDiv, Nat.reduceAdd, beq_self_eq_true, uq0, uq1, ↓reduceIte, Nat.reduceEqDiff, uq2, uq3]
        cases b <;> simp -dsimp -implicitDefEqProofs only [go_sem, ↓reduceIte, lk, gk, gi]
        · exact ⟨⟨by omega, by omega⟩, ⟨by omega, by omega⟩, ⟨by omega, by omega⟩, rfl⟩
        · exact ⟨⟨by omega, by omega⟩, rfl⟩
      · generalize ((keys.take keys.length).any fun x => x.getD i 0 == (d : Int)) = b at *
        simp -dsimp -implicitDefEqProofs only [pick_nil, pick_cons, look_nil, look_cons, dropB_nil, dropB_cons, inD_nil, inD_cons, inE_nil, inE_cons, or_t_l, or_f_l, Nat.reduceBEq, Nat.reduceDiv, Nat.reduceAdd, beq_self_eq_true, uq0, uq1, ↓reduceIte, Nat.reduceEqDiff, uq2, uq3]
        cases b <;> simp -dsimp -implicitDefEqProofs only [go_sem, ↓reduceIte, nlt_len]
        · exact ⟨⟨by omega, by omega⟩, rfl⟩
        · exact ⟨by omega, ⟨by omega, by omega⟩, rfl, by simp⟩
    · have hltd : decide (((m.depths.toNat : Nat) : Int) < m.depths) = false := decide_eq_false (by omega)
      have hfl := flt_len (hullAt keys i) m.depths.toNat
      generalize flt (hullAt keys i) m.depths.toNat = F at *
      have htk : List.take F.length (List.map eI F) = List.map eI F := uq4 (by simp)
      have htk2 : List.take i (List.map eIs H) = List.map eIs H := uq4 (by simp; omega)
      have e2 : List.map eIs (H ++ [F]) = List.map eIs H ++ [eIs F] := by simp
      have e0 : (i + 1 == 0) = false := rfl
      simp -dsimp -implicitDefEqProofs only [pick_nil, pick_cons, look_nil, look_cons, dropB_nil, dropB_cons, inD_nil, inD_cons, inE_nil, inE_cons, or_t_l, or_f_l, Nat.reduceBEq, Nat.reduceDiv, Nat.reduceAdd, beq_self_eq_true, uq0, uq1, ↓reduceIte, Nat.reduceEqDiff, uq2, uq3]
      simp -dsimp -implicitDefEqProofs only [go_sem, ↓reduceIte, hltd]
      refine .inr ⟨by omega, by omega, (by cases i with | zero => exact .inr rfl | succ i => exact .inl rfl), ⟨by omega, by omega⟩, rfl, ?_⟩
      rw [e0, e2]
      simp -dsimp -implicitDefEqProofs only [go_sem, ↓reduceIte, htk, htk2]
  · have hlt : decide (((m.chambers.toNat : Nat) : Int) < m.chambers) = false := decide_eq_false (by omega)
    have hhl := hull_len m keys m.chambers.toNat
    generalize hull m keys m.chambers.toNat = H at *
    have htk := take_map_all eIs H m.chambers.toNat (by omega)
    simp -dsimp -implicitDefEqProofs only [pick_nil, pick_cons, look_nil, look_cons, dropB_nil, dropB_cons, inD_nil, inD_cons, inE_nil, inE_cons, or_t_l, or_f_l, Nat.reduceBEq, Nat.reduceDiv, Nat.reduceAdd, beq_self_eq_true, uq0, uq1, ↓reduceIte, Nat.reduceEqDiff, uq2, uq3]
    simp -dsimp -implicitDefEqProofs only [go_sem, ↓reduceIte, hlt]
    ((repeat' (with_reducible refine And.intro ?_ ?_)); all_goals try (first | omega | (refine ⟨?_, ?_⟩ <;> omega) | (exact rfl)))
    all_goals rw [htk]
theorem c_l15Lock (m : MkM) (t cuts : List (List Int)) (k : Nat) (hm : isMk m = true) (h0 : cuts.length ≤ 1048576) (h1 : cuts.length ≤ t.length) (hk : ∀ i (hi : i < t.length), k < t[i].length) (hc : ∀ x ∈ cuts, (x.length : Int) = m.chambers) :
    Fn Tryz.prog 274 [eSy m t, eIss cuts, eI k] false (· = eLk (lockAt m t cuts k)) := by
  refine Fn.of_vcS 36 [.cell 6 187] Tryz.func274 rfl rfl rfl rfl rfl (of_decide_eq_true rfl) ?_
  simp -dsimp -implicitDefEqProofs only [go_sem, ↓reduceIte]
  refine Later.up [1, 2, 3, 6] [12, 30, 31] [9] cuts.length (fun _ => True) (fun i => [(8, eI i), (7, .ref 9 0 0 (onTo t cuts k i).length)]) (fun i => [(9, .row 0 ⟨1, false⟩ (onTo t cuts k i).isEmpty ((onTo t cuts k i).map eIs))]) trivial ?_ rfl (fun i hi _ => ?_) (fun _ => ?_)
  · simp -dsimp -implicitDefEqProofs only [go_sem, ↓reduceIte, onTo_zero, List.isEmpty_nil]
  · have hit : i < t.length := by omega
    have hki := hk i hit
    have gi := get_some hit
    have gk := get_some hki
    have gc := get_some hi
    have li := lt_len hi
    have hp : (t.getD i []).getD k 0 = t[i][k] := by simp [List.getD_eq_getElem?_getD, hit, hki]
    have hcd : cuts.getD i [] = cuts[i] := by simp [List.getD_eq_getElem?_getD, hi]
    have hon := onTo_len t cuts k i
    rw [onTo_succ, hp, hcd]
    generalize onTo t cuts k i = F at *
    generalize t[i][k] = z at *
    generalize cuts[i] = c at *
    have htk := take_map_all eIs F F.length (Nat.le_refl _)
    have e2 : List.map eIs (F ++ [c]) = List.map eIs F ++ [eIs c] := by simp
    have e0 : (F ++ [c]).isEmpty = false := by simp
    have e1 : (F ++ [c]).length = F.length + 1 := by simp
    simp -dsimp -implicitDefEqProofs only [pick_nil, pick_cons, look_nil, look_cons, dropB_nil, dropB_cons, inD_nil, inD_cons, inE_nil, inE_cons, or_t_l, or_f_l, Nat.reduceBEq, Nat.reduceDiv, Nat.reduceAdd, beq_self_eq_true, uq0, uq1, ↓reduceIte, Nat.reduceEqDiff, uq2, uq3]
    rcases hz : (z == 1) with _ | _
    · simp -dsimp -implicitDefEqProofs only [go_sem, ↓reduceIte, li, gi, gk, hz]
      ((repeat' (with_reducible refine And.intro ?_ ?_)); all_goals try (first | omega | (refine ⟨?_, ?_⟩ <;> omega) | (exact rfl)))
      all_goals trace_state
    · simp only [if_true]
      simp -dsimp -implicitDefEqProofs only [go_sem, ↓reduceIte, li, gi, gk, gc, hz]
      ((repeat' (with_reducible refine And.intro ?_ ?_)); all_goals try (first | omega | (refine ⟨?_, ?_⟩ <;> omega) | (exact rfl)))
      refine .inr ⟨by omega, (by cases F with | nil => exact .inr rfl | cons => exact .inl rfl), ⟨by omega, by omega⟩, ?_⟩
      rw [e0, e2]
      simp -dsimp -implicitDefEqProofs only [go_sem, ↓reduceIte, htk]
      exact rfl
  · have hon := onTo_len t cuts k cuts.length
    have hmm : ∀ x ∈ onTo t cuts k cuts.length, (x.length : Int) = m.chambers := fun x hx => hc x (onTo_mem (Nat.le_refl _) x hx)
    have hq := c_l04Hull m (onTo t cuts k cuts.length) hm (by omega) hmm
    unfold lockAt
    generalize onTo t cuts k cuts.length = F at *
    have htk := take_map_all eIs F F.length (Nat.le_refl _)
    simp -dsimp -implicitDefEqProofs only [pick_nil, pick_cons, look_nil, look_cons, dropB_nil, dropB_cons, inD_nil, inD_cons, inE_nil, inE_cons, or_t_l, or_f_l, Nat.reduceBEq, Nat.reduceDiv, Nat.reduceAdd, beq_self_eq_true, uq0, uq1, ↓reduceIte, Nat.reduceEqDiff, uq2, uq3]
    simp -dsimp -implicitDefEqProofs only [go_sem, ↓reduceIte, nlt_len]
    refine sCallT_frz 9 0 ⟨1, false⟩ F.isEmpty (List.map eIs F) hq (by decide) ?_ ?_ fun r hr => ?_
    · simp -dsimp -implicitDefEqProofs only [go_sem, ↓reduceIte]
    · refine frzOk_no ?_ rfl ?_
      · simp -dsimp -implicitDefEqProofs only [go_sem, ↓reduceIte]
      · have h := frzOk_ref (l := 9) (v := 0) (sh := ⟨1, false⟩) (ys := List.map eIs F) (xs := []) (r := []) 0 F.length (by simp) trivial
        rw [List.drop_zero, htk] at h
        exact h
    · subst hr
      simp -dsimp -implicitDefEqProofs only [go_sem, ↓reduceIte]
      all_goals first | exact rfl | trace_state
theorem c_l15Locks (m : MkM) (t cuts : List (List Int)) (hm : isMk m = true) (h0 : cuts.length ≤ 1048576) (h1 : cuts.length ≤ t.length) (h2 : 0 < t.length) (hk : ∀ i (hi : i < t.length), t[i].length = (t.getD 0 []).length) (hd : (t.getD 0 []).length ≤ 1048576) (hc : ∀ x ∈ cuts, (x.length : Int) = m.chambers) :
    Fn Tryz.prog 224 [eSy m t, eIss cuts] false (· = eLks (locksTo m t cuts (t.getD 0 []).length)) := by
  refine Fn.of_vcS 25 [.tmp 4] Tryz.func224 rfl rfl rfl rfl rfl (of_decide_eq_true rfl) ?_
  have g0 := get_some h2
  have hg : t.getD 0 [] = t[0] := by simp [List.getD_eq_getElem?_getD, h2]
  rw [hg] at hk hd ⊢
  simp -dsimp -implicitDefEqProofs only [go_sem, ↓reduceIte]
  refine Later.up [1, 2] [13, 21, 22, 23] [7] t[0].length (fun _ => True) (fun i => [(6, eI i), (5, .ref 7 0 0 i)]) (fun i => [(7, .row 0 ⟨1, true⟩ (i == 0) ((locksTo m t cuts i).map eLk))]) trivial ?_ rfl (fun i hi _ => ?_) (fun _ => ?_)
  · simp -dsimp -implicitDefEqProofs only [go_sem, ↓reduceIte, locksTo_zero]
  · have hq := c_l15Lock m t cuts i hm h0 h1 (fun j hj => by rw [hk j hj]; exact hi) hc
    have hll := locksTo_len m t cuts i
    have li := lt_len hi
    rw [locksTo_succ]
    generalize locksTo m t cuts i = F at *
    generalize lockAt m t cuts i = L at *
    have htk := take_map_all eLk F i (by omega)
    have e0 : (i + 1 == 0) = false := rfl
    have e2 : List.map eLk (F ++ [L]) = List.map eLk F ++ [eLk L] := by simp
    simp -dsimp -implicitDefEqProofs only [pick_nil, pick_cons, look_nil, look_cons, dropB_nil, dropB_cons, inD_nil, inD_cons, inE_nil, inE_cons, or_t_l, or_f_l, Nat.reduceBEq, Nat.reduceDiv, Nat.reduceAdd, beq_self_eq_true, uq0, uq1, ↓reduceIte, Nat.reduceEqDiff, uq2, uq3]
    simp -dsimp -implicitDefEqProofs only [go_sem, ↓reduceIte, g0, li]
    refine ⟨by omega, ?_⟩
    (refine sCallS_one (hq) (by simp [noLabs, labs, labsL, isClo]) ?_)
    simp -dsimp -implicitDefEqProofs only [go_sem, ↓reduceIte]
    refine .inr ⟨by omega, by omega, (by cases i with | zero => exact .inr rfl | succ i => exact .inl rfl), ⟨by omega, by omega⟩, rfl, ?_⟩
    rw [e0, e2]
    simp -dsimp -implicitDefEqProofs only [go_sem, ↓reduceIte, htk]
  · have hll := locksTo_len m t cuts t[0].length
    generalize locksTo m t cuts t[0].length = F at *
    have htk := take_map_all eLk F t[0].length (by omega)
    simp -dsimp -implicitDefEqProofs only [pick_nil, pick_cons, look_nil, look_cons, dropB_nil, dropB_cons, inD_nil, inD_cons, inE_nil, inE_cons, or_t_l, or_f_l, Nat.reduceBEq, Nat.reduceDiv, Nat.reduceAdd, beq_self_eq_true, uq0, uq1, ↓reduceIte, Nat.reduceEqDiff, uq2, uq3]
    simp -dsimp -implicitDefEqProofs only [go_sem, ↓reduceIte, g0, nlt_len]
    ((repeat' (with_reducible refine And.intro ?_ ?_)); all_goals try (first | omega | (refine ⟨?_, ?_⟩ <;> omega) | (exact rfl)))
    all_goals rw [htk]
theorem c_l04Opens (l : List (List Int)) (c : List Int) (h0 : c.length ≤ l.length) (h1 : l.length ≤ 1048576) (h2 : ∀ x ∈ l, x.length ≤ 1048576) : Fn Tryz.prog 261 [eLk l, eIs c] true (· = eB (opensL l c)) := by
  refine Fn.of_vcN 23 [.tmp 4] Tryz.func261 rfl rfl rfl rfl rfl (of_decide_eq_true rfl) ?_
  simp -dsimp -implicitDefEqProofs only [go_sem, ↓reduceIte]
  refine Later.up [1, 2] [8, 21] [] c.length (fun i => ((List.range i).all fun i => has (l.getD i []) (c.getD i 0)) = true) (fun i => [(5, eI i)]) (fun _ => []) rfl ?_ rfl (fun i hi hI => ?_) (fun hI => ?_)
  · simp -dsimp -implicitDefEqProofs only [go_sem, ↓reduceIte]
  · have gi := get_some (show i < l.length by omega)
    have gc := get_some hi
    have li := lt_len hi
    have hp : has (l.getD i []) (c.getD i 0) = has l[i] c[i] := by simp [List.getD_eq_getElem?_getD, hi, show i < l.length by omega]
    have hq := c_l01Has l[i] c[i] (h2 _ (List.getElem_mem _))
    have no : has l[i] c[i] = false → opensL l c = false := fun h => range_all_no hi (by rw [hp]; exact h)
    have yes : has l[i] c[i] = true → ((List.range (i + 1)).all fun i => has (l.getD i []) (c.getD i 0)) = true := fun h => by rw [range_all_succ, hI, hp, h]; rfl
    clear hp hI
    generalize l[i] = x at *
    generalize c[i] = z at *
    simp -dsimp -implicitDefEqProofs only [pick_nil, pick_cons, look_nil, look_cons, dropB_nil, dropB_cons, inD_nil, inD_cons, inE_nil, inE_cons, or_t_l, or_f_l, Nat.reduceBEq, Nat.reduceDiv, Nat.reduceAdd, beq_self_eq_true, uq0, uq1, ↓reduceIte, Nat.reduceEqDiff, uq2, uq3]
    simp -dsimp -implicitDefEqProofs only [go_sem, ↓reduceIte, gi, gc, li]
    ((repeat' (with_reducible refine And.intro ?_ ?_)); all_goals try (first | omega | (refine ⟨?_, ?_⟩ <;> omega) | (exact rfl)))
    refine Later.draw mixed rfl ?_
    simp -dsimp -implicitDefEqProofs only [go_sem, ↓reduceIte, gi, gc, li]
    ((repeat' (with_reducible refine And.intro ?_ ?_)); all_goals try (first | omega | (refine ⟨?_, ?_⟩ <;> omega) | (exact rfl)))
    refine sCallX_one hq ?_
    simp -dsimp -implicitDefEqProofs only [go_sem, ↓reduceIte]
    refine ⟨by exact rfl, ?_⟩
    rcases hb : has x z with _ | _
    · rw [no hb]
      simp -dsimp -implicitDefEqProofs only [go_sem, ↓reduceIte]
    · simp -dsimp -implicitDefEqProofs only [go_sem, ↓reduceIte]
      refine ⟨⟨by omega, by omega⟩, ?_, rfl⟩
      rw [← List.range_succ]
      exact yes hb
  · simp -dsimp -implicitDefEqProofs only [pick_nil, pick_cons, look_nil, look_cons, dropB_nil, dropB_cons, inD_nil, inD_cons, inE_nil, inE_cons, or_t_l, or_f_l, Nat.reduceBEq, Nat.reduceDiv, Nat.reduceAdd, beq_self_eq_true, uq0, uq1, ↓reduceIte, Nat.reduceEqDiff, uq2, uq3]
    simp -dsimp -implicitDefEqProofs only [go_sem, ↓reduceIte, nlt_len]
    rw [show opensL l c = true from hI]
theorem c_l15False (m : MkM) (t cuts : List (List Int)) (hm : isMk m = true) (h0 : cuts.length ≤ 1000) (h1 : cuts.length ≤ t.length) (h2 : 0 < t.length) (hk : ∀ i (hi : i < t.length), t[i].length = (t.getD 0 []).length) (hd : (t.getD 0 []).length ≤ 1000) (hc : ∀ x ∈ cuts, (x.length : Int) = m.chambers) :
    Fn Tryz.prog 201 [eSy m t, eIss cuts] false (· = eIss (falses m t cuts)) := by
  have ⟨⟨n1, n2⟩, n3, n4⟩ := isMk_num hm
  refine Fn.of_vcS 52 [.tmp 4] Tryz.func201 rfl rfl rfl rfl rfl (of_decide_eq_true rfl) ?_
  have hq := c_l15Locks m t cuts hm (by omega) h1 h2 hk (by omega) hc
  simp -dsimp -implicitDefEqProofs only [go_sem, ↓reduceIte]
  (refine sCallS_one (hq) (by simp [noLabs, labs, labsL, isClo]) ?_)
  clear hq
  simp -dsimp -implicitDefEqProofs only [go_sem, ↓reduceIte]
  have hll := locksTo_len m t cuts (t.getD 0 []).length
  refine Later.up [1, 2, 5] [15, 21, 43, 48, 49, 50] [12] cuts.length (fun _ => True) (fun i => [(7, eI i), (6, .ref 12 0 0 (fprTo m t cuts i).length)]) (fun i => [(12, .row 0 ⟨1, false⟩ (fprTo m t cuts i).isEmpty ((fprTo m t cuts i).map eIs))]) trivial ?_ rfl (fun i hi _ => ?_) (fun _ => ?_)
  · simp -dsimp -implicitDefEqProofs only [go_sem, ↓reduceIte, fprTo_zero, List.isEmpty_nil]
  · have hfl := fprTo_len m t cuts i
    have li := lt_len hi
    have hmul : i * (t.getD 0 []).length ≤ 1000 * 1000 := Nat.mul_le_mul (by omega) hd
    rw [fprTo_succ]
    generalize fprTo m t cuts i = H at *
    simp -dsimp -implicitDefEqProofs only [pick_nil, pick_cons, look_nil, look_cons, dropB_nil, dropB_cons, inD_nil, inD_cons, inE_nil, inE_cons, or_t_l, or_f_l, Nat.reduceBEq, Nat.reduceDiv, Nat.reduceAdd, beq_self_eq_true, uq0, uq1, ↓reduceIte, Nat.reduceEqDiff, uq2, uq3]
    simp -dsimp -implicitDefEqProofs only [go_sem, ↓reduceIte, li]
    refine Later.up [1, 2, 5, 7] [21, 43, 48, 49, 50] [12] (t.getD 0 []).length (fun _ => True) (fun k => [(8, eI k), (6, .ref 12 0 0 (H ++ fpTo m t cuts i k).length)]) (fun k => [(12, .row 0 ⟨1, false⟩ (H ++ fpTo m t cuts i k).isEmpty ((H ++ fpTo m t cuts i k).map eIs))]) trivial ?_ rfl (fun k hk' _ => ?_) (fun _ => ?_)
    · simp -dsimp -implicitDefEqProofs only [go_sem, ↓reduceIte, fpTo_zero, List.append_nil]
    · have hit : i < t.length := by omega
      have hki : k < t[i].length := by rw [hk i hit]; exact hk'
      have gi := get_some hit
      have gk := get_some hki
      have gc := get_some hi
      have gl := locksTo_get m t cuts hk'
      have hp : (t.getD i []).getD k 0 = t[i][k] := by simp [List.getD_eq_getElem?_getD, hit, hki]
      have hcd : cuts.getD i [] = cuts[i] := by simp [List.getD_eq_getElem?_getD, hi]
      have hfk := fpTo_len m t cuts i k
      have hL := lockAt_len m t cuts k
      have hcl := hc _ (List.getElem_mem hi)
      have hop := c_l04Opens (lockAt m t cuts k) cuts[i] (by omega) (by omega) (fun x hx => by have := lockAt_sets m t cuts k x hx; omega)
      rw [fpTo_succ, hp, hcd]
      generalize fpTo m t cuts i k = F at *
      generalize lockAt m t cuts k = L at *
      generalize locksTo m t cuts (t.getD 0 []).length = LS at *
      have lk : decide ((k : Int) < (LS.length : Int)) = true := decide_eq_true (by omega)
      generalize t[i][k] = z at *
      generalize cuts[i] = c at *
      generalize hopb : opensL L c = ob at *
      have hG : (H ++ F).length ≤ 1001000 := by rw [List.length_append]; omega
      have e9 : ∀ x : List Int, H ++ (F ++ [x]) = (H ++ F) ++ [x] := fun x => by simp
      simp only [e9, apply_ite (fun l => H ++ l)]
      generalize H ++ F = G at *
      have htk := take_map_all eIs G G.length (Nat.le_refl _)
      have e0 : (G ++ [[(i : Int), (k : Int)]]).isEmpty = false := by simp
      have e1 : (G ++ [[(i : Int), (k : Int)]]).length = G.length + 1 := by simp
      have e2 : List.map eIs (G ++ [[(i : Int), (k : Int)]]) = List.map eIs G ++ [eIs [(i : Int), (k : Int)]] := by simp
      simp -dsimp -implicitDefEqProofs only [pick_nil, pick_cons, look_nil, look_cons, dropB_nil, dropB_cons, inD_nil, inD_cons, inE_nil, inE_cons, or_t_l, or_f_l, Nat.reduceBEq, Nat.reduceDiv, Nat.reduceAdd, beq_self_eq_true, uq0, uq1, ↓reduceIte, Nat.reduceEqDiff, uq2, uq3]
      rcases hz : (z == 0) with _ | _
      · simp -dsimp -implicitDefEqProofs only [go_sem, ↓reduceIte, gi, gk, li, lk, hz]
        refine Later.draw mixed rfl ?_
        simp -dsimp -implicitDefEqProofs only [go_sem, ↓reduceIte, gi, gk, li, lk, hz]
        ((repeat' (with_reducible refine And.intro ?_ ?_)); all_goals try (first | omega | (refine ⟨?_, ?_⟩ <;> omega) | (exact rfl)))
        all_goals trace_state
      · simp -dsimp -implicitDefEqProofs only [go_sem, ↓reduceIte, gi, gk, gc, gl, li, lk, hz]
        refine Later.draw mixed rfl ?_
        simp -dsimp -implicitDefEqProofs only [go_sem, ↓reduceIte, gi, gk, gc, gl, li, lk, hz]
        ((repeat' (with_reducible refine And.intro ?_ ?_)); all_goals try (first | omega | (refine ⟨?_, ?_⟩ <;> omega) | (exact rfl)))
        refine sCallX_one hop ?_
        cases ob with
        | false =>
          simp -dsimp -implicitDefEqProofs only [go_sem, ↓reduceIte]
          ((repeat' (with_reducible refine And.intro ?_ ?_)); all_goals try (first | omega | (refine ⟨?_, ?_⟩ <;> omega) | (exact rfl)))
          all_goals trace_state
        | true =>
          simp -dsimp -implicitDefEqProofs only [go_sem, ↓reduceIte]
          refine ⟨by exact rfl, ?_⟩
          refine .inr ⟨by omega, (by cases G with | nil => exact .inr rfl | cons => exact .inl rfl), ⟨by omega, by omega⟩, rfl, ?_⟩
          rw [e0, e2]
          simp -dsimp -implicitDefEqProofs only [go_sem, ↓reduceIte, htk]
          all_goals first | exact rfl | trace_state
    · simp -dsimp -implicitDefEqProofs only [pick_nil, pick_cons, look_nil, look_cons, dropB_nil, dropB_cons, inD_nil, inD_cons, inE_nil, inE_cons, or_t_l, or_f_l, Nat.reduceBEq, Nat.reduceDiv, Nat.reduceAdd, beq_self_eq_true, uq0, uq1, ↓reduceIte, Nat.reduceEqDiff, uq2, uq3]
      simp -dsimp -implicitDefEqProofs only [go_sem, ↓reduceIte, hll, nlt_len]
      ((repeat' (with_reducible refine And.intro ?_ ?_)); all_goals try (first | omega | (refine ⟨?_, ?_⟩ <;> omega) | (exact rfl)))
      all_goals trace_state
  · have hfl := fprTo_len m t cuts cuts.length
    unfold falses
    generalize fprTo m t cuts cuts.length = F at *
    have htk := take_map_all eIs F F.length (Nat.le_refl _)
    simp -dsimp -implicitDefEqProofs only [pick_nil, pick_cons, look_nil, look_cons, dropB_nil, dropB_cons, inD_nil, inD_cons, inE_nil, inE_cons, or_t_l, or_f_l, Nat.reduceBEq, Nat.reduceDiv, Nat.reduceAdd, beq_self_eq_true, uq0, uq1, ↓reduceIte, Nat.reduceEqDiff, uq2, uq3]
    simp -dsimp -implicitDefEqProofs only [go_sem, ↓reduceIte, nlt_len]
    ((repeat' (with_reducible refine And.intro ?_ ?_)); all_goals try (first | omega | (refine ⟨?_, ?_⟩ <;> omega) | (exact rfl)))
    all_goals rw [htk]
end Go.Vc


set_option linter.unusedVariables false
set_option linter.unusedSimpArgs false
set_option linter.unnecessarySimpa false
namespace Go.Vc
open Go.Proofs
set_option maxRecDepth 100000
def openP (m : MkM) (t cuts : List (List Int)) : Bool := ((falses m t cuts).length : Int) == 0
def candTo (m : MkM) (t cuts : List (List Int)) (i : Nat) : List (List Int) := ((allK m).take i).filter fun k => openP m t (cuts ++ [k])
def candL (m : MkM) (t cuts : List (List Int)) (n : Nat) : List (List Int) := ((allK m).filter fun k => openP m t (cuts ++ [k])).take n
theorem candTo_succ (m : MkM) (t cuts : List (List Int)) {i : Nat} {k : List Int} (h : (allK m)[i]? = some k) : candTo m t cuts (i + 1) = if openP m t (cuts ++ [k]) = true then candTo m t cuts i ++ [k] else candTo m t cuts i := by
  obtain ⟨hi, e⟩ := List.getElem?_eq_some_iff.1 h
  unfold candTo
  rw [List.take_succ_eq_append_getElem hi, List.filter_append, e, List.filter_cons]
  split <;> simp
theorem candTo_app (m : MkM) (t cuts : List (List Int)) (i : Nat) : ((allK m).filter fun k => openP m t (cuts ++ [k])) = candTo m t cuts i ++ ((allK m).drop i).filter fun k => openP m t (cuts ++ [k]) := by
  unfold candTo
  rw [← List.filter_append, List.take_append_drop]
theorem candL_full {m : MkM} {t cuts : List (List Int)} {i n : Nat} (h : (candTo m t cuts i).length = n) : candL m t cuts n = candTo m t cuts i := by
  unfold candL
  rw [candTo_app m t cuts i, ← h, List.take_left]
theorem candL_end {m : MkM} {t cuts : List (List Int)} {n : Nat} (h : (candTo m t cuts (allK m).length).length ≤ n) : candL m t cuts n = candTo m t cuts (allK m).length := by
  unfold candL
  rw [candTo_app m t cuts (allK m).length, List.drop_length, List.filter_nil, List.append_nil, uq4 h]
theorem candL_mem {m : MkM} {t cuts : List (List Int)} {n : Nat} {k : List Int} (h : k ∈ candL m t cuts n) : k ∈ allK m := (List.mem_filter.1 (List.mem_of_mem_take h)).1
theorem candL_len (m : MkM) (t cuts : List (List Int)) (n : Nat) : (candL m t cuts n).length ≤ n := by
  unfold candL
  rw [List.length_take]; omega
def keyV (o : Option (List Int)) : AV := match o with
  | some k => eIs k
  | none => .val (.slice none 0 0)
theorem keyV_some (k : List Int) : keyV (some k) = eIs k := rfl
theorem keyV_none : keyV none = .val (.slice none 0 0) := rfl
theorem optR_eq (o : Option (List Int)) : optR o = .tup [keyV o, eB o.isSome] := by cases o <;> rfl
theorem next_all {m : MkM} (hm : 0 ≤ m.chambers) {i : Nat} {k : List Int} (h : (allK m)[i]? = some k) : nextTo m k k.length = (allK m)[i + 1]? := by
  obtain ⟨hi, e⟩ := List.getElem?_eq_some_iff.1 h
  have hs : allK m = (allK m).take i ++ k :: (allK m).drop (i + 1) := by
    rw [← e, ← List.drop_eq_getElem_cons hi, List.take_append_drop]
  rw [nextTo_all hm hs, List.head?_drop]
structure SS where
  tries : Nat
  stop : Bool
  found : List (List (List Int))
def goF (m : MkM) (t : List (List Int)) (lim : Nat) (part : List (List Int)) (rec : List (List Int) → SS → Bool × SS) : List (List Int) → SS → Bool × SS
  | [], z => (false, z)
  | k :: ks, z =>
    if ((z.tries : Int) == (lim : Int)) = true then (true, ⟨z.tries, true, z.found⟩)
    else if openP m t (part ++ [k]) = true then
      (if (rec (part ++ [k]) ⟨z.tries + 1, z.stop, z.found⟩).1 = true then (true, (rec (part ++ [k]) ⟨z.tries + 1, z.stop, z.found⟩).2)
      else goF m t lim part rec ks (rec (part ++ [k]) ⟨z.tries + 1, z.stop, z.found⟩).2)
    else goF m t lim part rec ks ⟨z.tries + 1, z.stop, z.found⟩
def fromF (m : MkM) (t : List (List Int)) (lim : Nat) : Nat → List (List Int) → SS → Bool × SS
  | 0, part, z => (true, ⟨z.tries, z.stop, [part]⟩)
  | d + 1, part, z => goF m t lim part (fromF m t lim d) (allK m) z
structure SSok (m : MkM) (lim n : Nat) (b : Bool) (z : SS) : Prop where
  tr : z.tries ≤ lim
  no : b = false → z.found = []
  one : z.found.length ≤ 1
  fl : ∀ f ∈ z.found, f.length = n ∧ ∀ k ∈ f, k ∈ allK m
theorem goF_ok {m : MkM} {t : List (List Int)} {lim n : Nat} {part : List (List Int)} {rec : List (List Int) → SS → Bool × SS} (hp : ∀ k ∈ part, k ∈ allK m)
    (hr : ∀ k z, k ∈ allK m → z.tries ≤ lim → z.found = [] → SSok m lim n (rec (part ++ [k]) z).1 (rec (part ++ [k]) z).2) :
    ∀ (ks : List (List Int)) (z : SS), (∀ k ∈ ks, k ∈ allK m) → z.tries ≤ lim → z.found = [] → SSok m lim n (goF m t lim part rec ks z).1 (goF m t lim part rec ks z).2
  | [], z, _, h1, h2 => ⟨h1, fun _ => h2, by rw [goF, h2]; simp, fun f hf => by rw [goF, h2] at hf; cases hf⟩
  | k :: ks, z, hk, h1, h2 => by
    have hk1 := hk k (List.mem_cons_self ..)
    have hk2 : ∀ k ∈ ks, k ∈ allK m := fun x hx => hk x (List.mem_cons_of_mem _ hx)
    unfold goF
    split
    · exact ⟨h1, fun h => (by cases h), by simp [h2], fun f hf => by simp [h2] at hf⟩
    · rename_i hne
      have hne : z.tries ≠ lim := fun e => hne (by rw [e]; simp)
      split
      · have := hr k ⟨z.tries + 1, z.stop, z.found⟩ hk1 (by simp only; omega) h2
        split
        · rename_i hb
          rw [hb] at this
          exact ⟨this.tr, fun h => (by cases h), this.one, this.fl⟩
        · rename_i hb
          exact goF_ok hp hr ks _ hk2 this.tr (this.no (by simpa using hb))
      · exact goF_ok hp hr ks _ hk2 (by simp only; omega) h2
theorem fromF_ok {m : MkM} {t : List (List Int)} {lim : Nat} : ∀ (d : Nat) (part : List (List Int)) (z : SS), (∀ k ∈ part, k ∈ allK m) → z.tries ≤ lim → z.found = [] → SSok m lim (part.length + d) (fromF m t lim d part z).1 (fromF m t lim d part z).2
  | 0, part, z, hp, h1, h2 => ⟨h1, fun h => (by cases h), by simp [fromF], fun f hf => by
      simp only [fromF, List.mem_singleton] at hf; subst hf; exact ⟨rfl, hp⟩⟩
  | d + 1, part, z, hp, h1, h2 => by
    refine goF_ok hp (fun k z hk h1 h2 => ?_) (allK m) z (fun _ h => h) h1 h2
    have := fromF_ok d (part ++ [k]) z (t := t) (fun x hx => by
      rcases List.mem_append.1 hx with hx | hx
      · exact hp x hx
      · simp at hx; subst hx; exact hk) h1 h2
    rw [List.length_append, List.length_singleton] at this
    rw [show part.length + (d + 1) = part.length + 1 + d by omega]
    exact this
end Go.Vc


set_option linter.unusedVariables false
set_option linter.unusedSimpArgs false
set_option linter.unnecessarySimpa false
namespace Go.Vc
open Go.Proofs
set_option maxRecDepth 100000
set_option maxHeartbeats 4000000
theorem c_l16With (cuts : List (List Int)) (key : List Int) (h : cuts.length ≤ 1000) : Fn Tryz.prog 148 [eIss cuts, eIs key] false (· = eIss (cuts ++ [key])) := by
  refine Fn.of_vcS 11 [.tmp 4] Tryz.func148 rfl rfl rfl rfl rfl (of_decide_eq_true rfl) ?_
  have tc : (cuts.map eIs).take cuts.length = cuts.map eIs := uq4 (by simp)
  cases cuts with
  | nil =>
    simp -dsimp -implicitDefEqProofs only [go_sem, ↓reduceIte]
    ((repeat' (with_reducible refine And.intro ?_ ?_)); all_goals try (first | omega | (refine ⟨?_, ?_⟩ <;> omega) | (exact rfl)))
    all_goals first | (refine .inr ⟨by omega, ?_⟩; simp [eIs]; done) | (simp [eIs]; done) | trace_state
  | cons c r =>
    have hf : isFlatL ((c :: r).map eIs) = false := rfl
    generalize c :: r = cuts at *
    simp -dsimp -implicitDefEqProofs only [go_sem, ↓reduceIte, hf, tc]
    ((repeat' (with_reducible refine And.intro ?_ ?_)); all_goals try (first | omega | (refine ⟨?_, ?_⟩ <;> omega) | (exact rfl)))
    all_goals first | (refine .inr ⟨by omega, ?_⟩; rw [uq4 (by simp)]; simp [eIs]; done) | (simp [eIs]; done) | trace_state
theorem c_l16Open (m : MkM) (t cuts : List (List Int)) (hm : isMk m = true) (h0 : cuts.length ≤ 1000) (h1 : cuts.length ≤ t.length) (h2 : 0 < t.length) (hk : ∀ i (hi : i < t.length), t[i].length = (t.getD 0 []).length) (hd : (t.getD 0 []).length ≤ 1000) (hc : ∀ x ∈ cuts, (x.length : Int) = m.chambers) :
    Fn Tryz.prog 147 [eSy m t, eIss cuts] true (· = eB (openP m t cuts)) := by
  have hq := c_l15False m t cuts hm h0 h1 h2 hk hd hc
  refine Fn.of_vcN 10 [.tmp 4] Tryz.func147 rfl rfl rfl rfl rfl (of_decide_eq_true rfl) ?_
  unfold openP
  generalize falses m t cuts = F at *
  simp -dsimp -implicitDefEqProofs only [go_sem, ↓reduceIte]
  (refine sCallS_one (hq) (by simp [noLabs, labs, labsL, isClo]) ?_)
  simp -dsimp -implicitDefEqProofs only [go_sem, ↓reduceIte]
  ((repeat' (with_reducible refine And.intro ?_ ?_)); all_goals try (first | omega | (refine ⟨?_, ?_⟩ <;> omega) | (exact rfl)))
  all_goals first | (simp; done) | trace_state
theorem c_l01OwnS (xs : List Int) (h : xs.length ≤ 1048576) : Fn Tryz.prog 102 [eIs xs] false (· = eIs xs) := by
  refine Fn.of_vcS 6 [.tmp 2] Tryz.func102 rfl rfl rfl rfl rfl (of_decide_eq_true rfl) ?_
  simp -dsimp -implicitDefEqProofs only [go_sem, ↓reduceIte]
  ((repeat' (with_reducible refine And.intro ?_ ?_)); all_goals try (first | omega | (refine ⟨?_, ?_⟩ <;> omega) | (exact rfl)))
  all_goals first | (simp; done) | trace_state
theorem c_l15Lists (t : List (List Int)) (h : t.length ≤ 1000) (h2 : ∀ x ∈ t, x.length ≤ 1048576) : Fn Tryz.prog 66 [eIss t] false (· = eIss t) := by
  refine Fn.of_vcS 21 [.tmp 2] Tryz.func66 rfl rfl rfl rfl rfl (of_decide_eq_true rfl) ?_
  simp -dsimp -implicitDefEqProofs only [go_sem, ↓reduceIte]
  refine Later.up [0] [8, 17, 18, 19] [5] t.length (fun _ => True) (fun i => [(4, eI i), (3, .ref 5 0 0 i)]) (fun i => [(5, .row 0 ⟨1, false⟩ (i == 0) ((t.take i).map eIs))]) trivial ?_ rfl (fun i hi _ => ?_) (fun _ => ?_)
  · simp -dsimp -implicitDefEqProofs only [go_sem, ↓reduceIte]
    ((repeat' (with_reducible refine And.intro ?_ ?_)); all_goals try (first | omega | (refine ⟨?_, ?_⟩ <;> omega) | (exact rfl)))
    all_goals first | (simp; done) | trace_state
  · have gi := get_some hi
    have li := lt_len hi
    have ho := c_l01OwnS t[i] (h2 _ (List.getElem_mem hi))
    have e2 : (t.take (i + 1)).map eIs = (t.take i).map eIs ++ [eIs t[i]] := by rw [List.take_succ_eq_append_getElem hi, List.map_append]; rfl
    have hln : (t.take i).length = i := by simp; omega
    have e0 : (i + 1 == 0) = false := rfl
    rw [e0, e2]
    clear e0 e2
    generalize t.take i = F at *
    generalize t[i] = x at *
    have tF : (F.map eIs).take i = F.map eIs := uq4 (by simp; omega)
    simp -dsimp -implicitDefEqProofs only [pick_nil, pick_cons, look_nil, look_cons, dropB_nil, dropB_cons, inD_nil, inD_cons, inE_nil, inE_cons, or_t_l, or_f_l, Nat.reduceBEq, Nat.reduceDiv, Nat.reduceAdd, beq_self_eq_true, uq0, uq1, ↓reduceIte, Nat.reduceEqDiff, uq2, uq3]
    simp -dsimp -implicitDefEqProofs only [go_sem, ↓reduceIte, gi, li]
    ((repeat' (with_reducible refine And.intro ?_ ?_)); all_goals try (first | omega | (refine ⟨?_, ?_⟩ <;> omega) | (exact rfl)))
    (refine sCallS_one (ho) (by simp [noLabs, labs, labsL, isClo]) ?_)
    simp -dsimp -implicitDefEqProofs only [go_sem, ↓reduceIte]
    refine .inr ⟨by omega, by omega, (by cases i with | zero => exact .inr rfl | succ i => exact .inl rfl), ⟨by omega, by omega⟩, ?_⟩
    simp -dsimp -implicitDefEqProofs only [go_sem, ↓reduceIte, tF]
    ((repeat' (with_reducible refine And.intro ?_ ?_)); all_goals try (first | omega | (refine ⟨?_, ?_⟩ <;> omega) | (exact rfl)))
    all_goals first | (simp; done) | trace_state
  · have tt : (t.map eIs).take t.length = t.map eIs := uq4 (by simp)
    rw [List.take_length]
    simp -dsimp -implicitDefEqProofs only [pick_nil, pick_cons, look_nil, look_cons, dropB_nil, dropB_cons, inD_nil, inD_cons, inE_nil, inE_cons, or_t_l, or_f_l, Nat.reduceBEq, Nat.reduceDiv, Nat.reduceAdd, beq_self_eq_true, uq0, uq1, ↓reduceIte, Nat.reduceEqDiff, uq2, uq3]
    simp -dsimp -implicitDefEqProofs only [go_sem, ↓reduceIte, nlt_len]
    ((repeat' (with_reducible refine And.intro ?_ ?_)); all_goals try (first | omega | (refine ⟨?_, ?_⟩ <;> omega) | (exact rfl)))
    all_goals first | (rw [tt]; done) | (simp; done) | trace_state
end Go.Vc


set_option linter.unusedVariables false
set_option linter.unusedSimpArgs false
set_option linter.unnecessarySimpa false
namespace Go.Vc
open Go.Proofs
set_option maxRecDepth 100000
set_option maxHeartbeats 4000000
theorem c_l16WithM (v : Nat) (cuts : List (List Int)) (key : List Int) (h : cuts.length ≤ 1000) : FnMR Tryz.prog 148 [.row v ⟨1, false⟩ cuts.isEmpty (cuts.map eIs)] [.ref 1000000000 v 0 cuts.length, eIs key]
    (fun x io => x = eIss (cuts ++ [key]) ∧ io = [.row v ⟨1, false⟩ cuts.isEmpty (cuts.map eIs)]) := by
  refine FnMR.of_vc 11 [.tmp 4] Tryz.func148 rfl rfl rfl rfl rfl (of_decide_eq_true rfl) ?_
  have tc : (cuts.map eIs).take cuts.length = cuts.map eIs := uq4 (by simp)
  cases cuts with
  | nil =>
    simp -dsimp -implicitDefEqProofs only [go_sem, ↓reduceIte, List.isEmpty_nil, List.length_nil]
    exact .inr rfl
  | cons c r =>
    have he : (c :: r).isEmpty = false := rfl
    generalize c :: r = cuts at *
    rw [he]
    simp -dsimp -implicitDefEqProofs only [go_sem, ↓reduceIte, tc]
    refine .inr ⟨by omega, .inr ⟨by omega, ?_⟩⟩
    rw [uq4 (by simp)]
    simp [eIs]
theorem c_l16CandidatesM (v : Nat) (m : MkM) (t cuts : List (List Int)) (n : Nat) (hm : isMk m = true) (hn : n ≤ 1000) (h0 : cuts.length ≤ 999) (h1 : cuts.length < t.length) (hk : ∀ i (hi : i < t.length), t[i].length = (t.getD 0 []).length) (hd : (t.getD 0 []).length ≤ 1000) (hc : ∀ x ∈ cuts, (x.length : Int) = m.chambers) :
    FnMR Tryz.prog 122 [.row v ⟨1, false⟩ cuts.isEmpty (cuts.map eIs)] [eSy m t, .ref 1000000000 v 0 cuts.length, eI n]
      (fun x io => x = eIss (candL m t cuts n) ∧ io = [.row v ⟨1, false⟩ cuts.isEmpty (cuts.map eIs)]) := by
  have ⟨⟨n1, n2⟩, n3, n4⟩ := isMk_num hm
  refine FnMR.of_vc 41 [.tmp 6] Tryz.func122 rfl rfl rfl rfl rfl (of_decide_eq_true rfl) ?_
  obtain ⟨k0, hk0⟩ := firstK_some hm
  have hf := (c_l02First m hm m.chambers.toNat [] (by simp; omega) (fun x hx => by cases hx)).subs (args' := [eMk m, eNil]) (.cons (.refl _) (.cons (.nil _) .nil))
  unfold firstR at hf
  rw [hk0] at hf
  have hk1 : (allK m)[0]? = some k0 := by rw [← List.head?_eq_getElem?, ← firstK_all, hk0]
  have hf : Fn Tryz.prog 138 [eMk m, eNil] false (· = .tup [eIs k0, eB true]) := hf
  have hK := fun k (hk : k ∈ allK m) => allK_ok (m := m) (by omega) hk
  simp -dsimp -implicitDefEqProofs only [go_sem, ↓reduceIte]
  refine sCallS_one hf (by simp [noLabs, labs, labsL, isClo]) ?_
  simp -dsimp -implicitDefEqProofs only [go_sem, ↓reduceIte]
  refine Later.up [1, 2, 3] [20, 27, 28, 31, 32, 37] [10] (allK m).length (fun i => (candTo m t cuts i).length ≤ n) (fun i => [(9, eB ((allK m)[i]?).isSome), (8, keyV ((allK m)[i]?)), (7, .ref 10 0 0 (candTo m t cuts i).length)]) (fun i => [(10, .row 0 ⟨1, false⟩ (candTo m t cuts i).isEmpty ((candTo m t cuts i).map eIs))]) (by simp [candTo]) ?_ rfl (fun i hi hI => ?_) (fun hI => ?_)
  · rw [hk1]
    simp -dsimp -implicitDefEqProofs only [go_sem, ↓reduceIte, candTo, List.take_zero, List.filter_nil, keyV_some, Option.isSome_some, List.isEmpty_nil]
    ((repeat' (with_reducible refine And.intro ?_ ?_)); all_goals try (first | omega | (refine ⟨?_, ?_⟩ <;> omega) | (exact rfl)))
    all_goals trace_state
  · have gi := get_some hi
    have hki := hK _ (List.getElem_mem hi)
    generalize (allK m)[i] = k at *
    have hs := candTo_succ m t cuts gi
    have hfull := @candL_full m t cuts i n
    have hnx := c_l02Next m k hm hki.len hki.el
    rw [next_all (by omega) gi] at hnx
    have hw := fun v => c_l16WithM v cuts k (by omega)
    have ho := c_l16Open m t (cuts ++ [k]) hm (by simp; omega) (by simp; omega) (by omega) hk hd (fun x hx => by
      rcases List.mem_append.1 hx with hx | hx
      · exact hc x hx
      · simp at hx; subst hx; exact hki.len)
    obtain ⟨b, hop⟩ : ∃ b, openP m t (cuts ++ [k]) = b := ⟨_, rfl⟩
    rw [hop] at hs ho
    have hE : ∀ C : List (List Int), C.isEmpty = false ∨ C.length = 0 := fun C => by cases C with | nil => exact .inr rfl | cons => exact .inl rfl
    have e2 := fun K : List (List Int) => show (K ++ [k]).map eIs = K.map eIs ++ [eIs k] by simp
    have e3 := fun K : List (List Int) => show (K ++ [k]).isEmpty = false by simp
    generalize candTo m t cuts i = C at *
    generalize candTo m t cuts (i + 1) = C2 at *
    generalize candL m t cuts n = R at *
    rw [gi]
    generalize (allK m)[i + 1]? = o at *
    rw [optR_eq] at hnx
    clear hK
    have tC : (C.map eIs).take C.length = C.map eIs := uq4 (by simp)
    simp -dsimp -implicitDefEqProofs only [pick_nil, pick_cons, look_nil, look_cons, dropB_nil, dropB_cons, inD_nil, inD_cons, inE_nil, inE_cons, or_t_l, or_f_l, Nat.reduceBEq, Nat.reduceDiv, Nat.reduceAdd, beq_self_eq_true, uq0, uq1, ↓reduceIte, Nat.reduceEqDiff, uq2, uq3]
    cases hlt : decide ((C.length : Int) < (n : Int)) with
    | false =>
      have hlt' := of_decide_eq_false hlt
      rw [hfull (by omega)]
      simp -dsimp -implicitDefEqProofs only [go_sem, ↓reduceIte, keyV_some, Option.isSome_some, hlt]
      ((repeat' (with_reducible refine And.intro ?_ ?_)); all_goals try (first | omega | (refine ⟨?_, ?_⟩ <;> omega) | (exact rfl)))
      all_goals first | (rw [tC]; done) | (simp; done) | trace_state
    | true =>
      have hlt' := of_decide_eq_true hlt
      clear hfull
      simp -dsimp -implicitDefEqProofs only [go_sem, ↓reduceIte, keyV_some, Option.isSome_some, hlt]
      ((repeat' (with_reducible refine And.intro ?_ ?_)); all_goals try (first | omega | (refine ⟨?_, ?_⟩ <;> omega) | (exact rfl)))
      refine Later.draw mixed rfl ?_
      simp -dsimp -implicitDefEqProofs only [go_sem, ↓reduceIte]
      ((repeat' (with_reducible refine And.intro ?_ ?_)); all_goals try (first | omega | (refine ⟨?_, ?_⟩ <;> omega) | (exact rfl)))
      refine sCallX_ioR [1000000000] rfl ?_
      simp -dsimp -implicitDefEqProofs only [go_sem, ↓reduceIte]
      refine sCallMRX_one (hw _) ?_
      simp -dsimp -implicitDefEqProofs only [go_sem, ↓reduceIte]
      ((repeat' (with_reducible refine And.intro ?_ ?_)); all_goals try (first | omega | (refine ⟨?_, ?_⟩ <;> omega) | (exact rfl)))
      refine sCallX_one ho ?_
      cases b with
      | true =>
        rw [if_pos rfl] at hs
        subst hs
        simp -dsimp -implicitDefEqProofs only [go_sem, ↓reduceIte]
        ((repeat' (with_reducible refine And.intro ?_ ?_)); all_goals try (first | omega | (refine ⟨?_, ?_⟩ <;> omega) | (exact rfl)))
        refine .inr ⟨by omega, hE C, ?_⟩
        rw [← e2]
        refine sCallS_one hnx (by simp [noLabs, labs, labsL, isClo]) ?_
        cases o with
        | some k2 =>
          simp -dsimp -implicitDefEqProofs only [go_sem, ↓reduceIte, keyV_some, Option.isSome_some, e3, tC]
          ((repeat' (with_reducible refine And.intro ?_ ?_)); all_goals try (first | omega | (refine ⟨?_, ?_⟩ <;> omega) | (exact rfl)))
          all_goals first | (simp; done) | (simp; omega) | trace_state
        | none =>
          simp -dsimp -implicitDefEqProofs only [go_sem, ↓reduceIte, keyV_none, Option.isSome_none, e3, tC]
          ((repeat' (with_reducible refine And.intro ?_ ?_)); all_goals try (first | omega | (refine ⟨?_, ?_⟩ <;> omega) | (exact rfl)))
          all_goals first | (simp; done) | (simp; omega) | trace_state
      | false =>
        rw [if_neg (by simp)] at hs
        subst hs
        simp -dsimp -implicitDefEqProofs only [go_sem, ↓reduceIte]
        ((repeat' (with_reducible refine And.intro ?_ ?_)); all_goals try (first | omega | (refine ⟨?_, ?_⟩ <;> omega) | (exact rfl)))
        refine sCallS_one hnx (by simp [noLabs, labs, labsL, isClo]) ?_
        cases o with
        | some k2 =>
          simp -dsimp -implicitDefEqProofs only [go_sem, ↓reduceIte, keyV_some, Option.isSome_some]
          ((repeat' (with_reducible refine And.intro ?_ ?_)); all_goals try (first | omega | (refine ⟨?_, ?_⟩ <;> omega) | (exact rfl)))
          all_goals first | (simp; done) | trace_state
        | none =>
          simp -dsimp -implicitDefEqProofs only [go_sem, ↓reduceIte, keyV_none, Option.isSome_none]
          ((repeat' (with_reducible refine And.intro ?_ ?_)); all_goals try (first | omega | (refine ⟨?_, ?_⟩ <;> omega) | (exact rfl)))
          all_goals first | (simp; done) | trace_state
  · have hend := @candL_end m t cuts n hI
    rw [hend]
    generalize candTo m t cuts (allK m).length = C at *
    have tC : (C.map eIs).take C.length = C.map eIs := uq4 (by simp)
    have gn : (allK m)[(allK m).length]? = none := by simp
    rw [gn]
    simp -dsimp -implicitDefEqProofs only [pick_nil, pick_cons, look_nil, look_cons, dropB_nil, dropB_cons, inD_nil, inD_cons, inE_nil, inE_cons, or_t_l, or_f_l, Nat.reduceBEq, Nat.reduceDiv, Nat.reduceAdd, beq_self_eq_true, uq0, uq1, ↓reduceIte, Nat.reduceEqDiff, uq2, uq3]
    simp -dsimp -implicitDefEqProofs only [go_sem, ↓reduceIte, keyV_none, Option.isSome_none]
    ((repeat' (with_reducible refine And.intro ?_ ?_)); all_goals try (first | omega | (refine ⟨?_, ?_⟩ <;> omega) | (exact rfl)))
    all_goals first | (rw [tC]; done) | (simp; done) | trace_state
end Go.Vc


set_option linter.unusedVariables false
set_option linter.unusedSimpArgs false
set_option linter.unnecessarySimpa false
namespace Go.Vc
open Go.Proofs
set_option maxRecDepth 100000
set_option maxHeartbeats 4000000
def eF (fs : List (List (List Int))) : AV := match fs with
  | [] => .val (.slice none 0 0)
  | f :: r => .arr ⟨1, false⟩ (eIss f :: r.map eIss)
theorem eF_nil : eF [] = .val (.slice none 0 0) := rfl
theorem eF_one (f : List (List Int)) : eF [f] = .arr ⟨1, false⟩ [eIss f] := rfl
abbrev sB (v : Nat) (m : MkM) (t : List (List Int)) (lim : Nat) (z : SS) : Blk :=
  .box v [eI m.chambers, eI m.depths, eI m.step, eI m.same, eI m.least, eIss t, eI lim, eI 1, eI z.tries, eB z.stop, eF z.found]
structure TabOk (t : List (List Int)) : Prop where
  n : 1 ≤ t.length ∧ t.length ≤ 900
  r : ∀ i (hi : i < t.length), t[i].length = (t.getD 0 []).length
  d : (t.getD 0 []).length ≤ 1000
theorem firstKey {m : MkM} (hm : isMk m = true) : ∃ k0, (allK m)[0]? = some k0 ∧ Fn Tryz.prog 138 [eMk m, eNil] false (· = .tup [eIs k0, eB true]) := by
  have ⟨⟨n1, n2⟩, n3, n4⟩ := isMk_num hm
  obtain ⟨k0, hk0⟩ := firstK_some hm
  have hf := (c_l02First m hm m.chambers.toNat [] (by simp; omega) (fun x hx => by cases hx)).subs (args' := [eMk m, eNil]) (.cons (.refl _) (.cons (.nil _) .nil))
  unfold firstR at hf
  rw [hk0] at hf
  exact ⟨k0, by rw [← List.head?_eq_getElem?, ← firstK_all, hk0], hf⟩
set_option maxHeartbeats 16000000 in
theorem c_l17From (m : MkM) (t : List (List Int)) (lim : Nat) (hm : isMk m = true) (ht : TabOk t) (hl : lim ≤ 4000) : ∀ (d v : Nat) (part : List (List Int)) (z : SS), part.length + d = t.length → (∀ k ∈ part, k ∈ allK m) → z.tries ≤ lim → z.found = [] →
    FnMR Tryz.prog 202 [sB v m t lim z] [.ptr 1000000000 v 0 0, eIss part, .val (.slice none 0 0)] (fun x io => x = eB (fromF m t lim d part z).1 ∧ io = [sB v m t lim (fromF m t lim d part z).2]) := by
  have ⟨⟨n1, n2⟩, n3, n4⟩ := isMk_num hm
  have hK := fun k (hk : k ∈ allK m) => allK_ok (m := m) (by omega) hk
  have ⟨⟨ht1, ht2⟩, ht3, ht4⟩ := ht
  obtain ⟨k0, hk1, hf⟩ := firstKey hm
  intro d
  induction d with
  | zero =>
    intro v part z hd hp hz1 hz2
    refine FnMR.of_vc 105 [.tmp 6] Tryz.func202 rfl rfl rfl rfl rfl (of_decide_eq_true rfl) ?_
    obtain ⟨tries, stop, found⟩ := z
    simp only at hz1 hz2
    subst hz2
    have hln : ((part.length : Int) == (t.length : Int)) = true := by simp; omega
    unfold fromF
    simp -dsimp -implicitDefEqProofs only [go_sem, ↓reduceIte, eF_nil, eF_one, hln]
    refine .inr ?_
    refine Later.frzB 1000000000 v 10 26 0 0 1 ⟨1, false⟩ false _ _ (by decide) rfl rfl rfl (by simp) ?_
    refine Later.draw mixed rfl ?_
    simp -dsimp -implicitDefEqProofs only [go_sem, ↓reduceIte]
    ((repeat' (with_reducible refine And.intro ?_ ?_)); all_goals try (first | omega | (refine ⟨?_, ?_⟩ <;> omega) | (exact rfl)))
    all_goals first | (exact ⟨rfl, rfl⟩) | trace_state
  | succ d ih =>
    intro v part z hd hp hz1 hz2
    refine FnMR.of_vc 105 [.tmp 6] Tryz.func202 rfl rfl rfl rfl rfl (of_decide_eq_true rfl) ?_
    have hln : ((part.length : Int) == (t.length : Int)) = false := by simp; omega
    obtain ⟨RR, hR⟩ : ∃ RR, fromF m t lim (d + 1) part z = RR := ⟨_, rfl⟩
    rw [hR]
    unfold fromF at hR
    obtain ⟨tries0, stop0, found0⟩ := z
    simp only at hz1 hz2
    subst hz2
    simp -dsimp -implicitDefEqProofs only [go_sem, ↓reduceIte, hln, eF_nil]
    refine sCallS_one hf (by simp [noLabs, labs, labsL, isClo]) ?_
    have h00 : decide ((0 : Int) > 0) = false := rfl
    simp -dsimp -implicitDefEqProofs only [go_sem, ↓reduceIte, h00]
    have hdr : goF m t lim part (fromF m t lim d) ((allK m).drop 0) ⟨tries0, stop0, []⟩ = RR := hR
    clear hR
    refine Later.lp [0, 1] [83, 89, 93, 102] [1000000000] (fun x : Nat × SS => x.1 ≤ (allK m).length ∧ x.2.tries ≤ lim ∧ x.2.found = [] ∧ goF m t lim part (fromF m t lim d) ((allK m).drop x.1) x.2 = RR) (fun x => [(8, eB ((allK m)[x.1]?).isSome), (7, keyV ((allK m)[x.1]?))])
      (fun x => [(1000000000, sB v m t lim x.2)]) (fun x => (allK m).length - x.1) (0, ⟨tries0, stop0, []⟩) ⟨Nat.zero_le _, hz1, rfl, hdr⟩ ?_ rfl (fun x hx => ?_)
    · rw [hk1]
      simp -dsimp -implicitDefEqProofs only [go_sem, ↓reduceIte, keyV_some, Option.isSome_some, eF_nil]
      ((repeat' (with_reducible refine And.intro ?_ ?_)); all_goals try (first | omega | (refine ⟨?_, ?_⟩ <;> omega) | (exact rfl)))
      all_goals trace_state
    · obtain ⟨i, z⟩ := x
      obtain ⟨x1, x2, x3, x4⟩ := hx
      obtain ⟨tries, stop, found⟩ := z
      simp only at x1 x2 x3 x4 ⊢
      subst x3
      rcases Nat.lt_or_ge i (allK m).length with hi | hi
      · have gi := get_some hi
        have hki := hK _ (List.getElem_mem hi)
        have hkm := List.getElem_mem hi
        rw [List.drop_eq_getElem_cons hi] at x4
        generalize (allK m)[i] = k at *
        have hnx := c_l02Next m k hm hki.len hki.el
        rw [next_all (by omega) gi, optR_eq] at hnx
        have hw := c_l16With part k (by omega)
        have hp2 : ∀ x ∈ part ++ [k], x ∈ allK m := fun x hx => by
          rcases List.mem_append.1 hx with hx | hx
          · exact hp x hx
          · simp at hx; subst hx; exact hkm
        have ho := c_l16Open m t (part ++ [k]) hm (by simp; omega) (by simp; omega) (by omega) ht3 ht4 (fun x hx => (hK x (hp2 x hx)).len)
        have hrec := fun z => ih v (part ++ [k]) z (by simp; omega) hp2
        have hrok := fun z h1 h2 => fromF_ok (m := m) (t := t) (lim := lim) d (part ++ [k]) z hp2 h1 h2
        unfold goF at x4
        rw [gi]
        generalize hO : (allK m)[i + 1]? = o at *
        generalize openP m t (part ++ [k]) = b at *
        clear hK ih
        cases htl : ((tries : Int) == (lim : Int)) with
        | true =>
          rw [htl, if_pos rfl] at x4
          subst x4
          simp -dsimp -implicitDefEqProofs only [pick_nil, pick_cons, look_nil, look_cons, dropB_nil, dropB_cons, inD_nil, inD_cons, inE_nil, inE_cons, or_t_l, or_f_l, Nat.reduceBEq, Nat.reduceDiv, Nat.reduceAdd, beq_self_eq_true, uq0, uq1, ↓reduceIte, Nat.reduceEqDiff, uq2, uq3]
          simp -dsimp -implicitDefEqProofs only [go_sem, ↓reduceIte, keyV_some, Option.isSome_some, eF_nil]
          refine Later.draw mixed rfl ?_
          simp -dsimp -implicitDefEqProofs only [go_sem, ↓reduceIte, htl]
          ((repeat' (with_reducible refine And.intro ?_ ?_)); all_goals try (first | omega | (refine ⟨?_, ?_⟩ <;> omega) | (exact rfl)))
          all_goals trace_state
        | false =>
          have htl' : tries ≠ lim := fun e => by rw [e] at htl; simp at htl
          rw [htl, if_neg (by simp)] at x4
          simp -dsimp -implicitDefEqProofs only [pick_nil, pick_cons, look_nil, look_cons, dropB_nil, dropB_cons, inD_nil, inD_cons, inE_nil, inE_cons, or_t_l, or_f_l, Nat.reduceBEq, Nat.reduceDiv, Nat.reduceAdd, beq_self_eq_true, uq0, uq1, ↓reduceIte, Nat.reduceEqDiff, uq2, uq3]
          simp -dsimp -implicitDefEqProofs only [go_sem, ↓reduceIte, keyV_some, Option.isSome_some, eF_nil]
          refine Later.draw mixed rfl ?_
          simp -dsimp -implicitDefEqProofs only [go_sem, ↓reduceIte, htl]
          ((repeat' (with_reducible refine And.intro ?_ ?_)); all_goals try (first | omega | (refine ⟨?_, ?_⟩ <;> omega) | (exact rfl)))
          refine sCallS_one hw (by simp [noLabs, labs, labsL, isClo]) ?_
          simp -dsimp -implicitDefEqProofs only [go_sem, ↓reduceIte]
          ((repeat' (with_reducible refine And.intro ?_ ?_)); all_goals try (first | omega | (refine ⟨?_, ?_⟩ <;> omega) | (exact rfl)))
          refine sCallT_one ho ?_
          cases b with
          | true =>
            rw [if_pos rfl] at x4
            have hrec := hrec ⟨tries + 1, stop, []⟩ (by simp only; omega) rfl
            have hrok := hrok ⟨tries + 1, stop, []⟩ (by simp only; omega) rfl
            generalize fromF m t lim d (part ++ [k]) ⟨tries + 1, stop, []⟩ = F at *
            obtain ⟨bb, tr, st, fd⟩ := F
            obtain ⟨g1, g2, g3, g4⟩ := hrok
            simp only at g1 g2 g3 x4
            cases bb with
            | true =>
              rw [if_pos rfl] at x4
              subst x4
              simp -dsimp -implicitDefEqProofs only [go_sem, ↓reduceIte]
              refine sCallT_ioR [1000000000] ?_
              cases fd with
              | nil =>
                simp -dsimp -implicitDefEqProofs only [go_sem, ↓reduceIte, eF_nil]
                refine sCallMR_any hrec ?_
                rintro _ _ ⟨rfl, rfl⟩
                simp -dsimp -implicitDefEqProofs only [go_sem, ↓reduceIte, eF_nil]
                ((repeat' (with_reducible refine And.intro ?_ ?_)); all_goals try (first | omega | (refine ⟨?_, ?_⟩ <;> omega) | (exact rfl)))
                all_goals trace_state
              | cons f r =>
                obtain rfl : r = [] := by cases r with | nil => rfl | cons => simp at g3
                simp -dsimp -implicitDefEqProofs only [go_sem, ↓reduceIte, eF_nil]
                refine sCallMR_any hrec ?_
                rintro _ _ ⟨rfl, rfl⟩
                simp -dsimp -implicitDefEqProofs only [go_sem, ↓reduceIte, eF_one]
                ((repeat' (with_reducible refine And.intro ?_ ?_)); all_goals try (first | omega | (refine ⟨?_, ?_⟩ <;> omega) | (exact rfl)))
                all_goals trace_state
            | false =>
              rw [if_neg (by simp)] at x4
              obtain rfl := g2 rfl
              simp -dsimp -implicitDefEqProofs only [go_sem, ↓reduceIte]
              refine sCallT_ioR [1000000000] ?_
              simp -dsimp -implicitDefEqProofs only [go_sem, ↓reduceIte, eF_nil]
              refine sCallMR_any hrec ?_
              rintro _ _ ⟨rfl, rfl⟩
              simp -dsimp -implicitDefEqProofs only [go_sem, ↓reduceIte, eF_nil]
              ((repeat' (with_reducible refine And.intro ?_ ?_)); all_goals try (first | omega | (refine ⟨?_, ?_⟩ <;> omega) | (exact rfl)))
              refine sCallS_one hnx (by simp [noLabs, labs, labsL, isClo]) ?_
              cases o with
              | some k2 =>
                simp -dsimp -implicitDefEqProofs only [go_sem, ↓reduceIte]
                refine ⟨(i + 1, ⟨tr, st, []⟩), ⟨by omega, g1, rfl, x4⟩, by simp only; omega, ?_⟩
                rw [hO]
                simp -dsimp -implicitDefEqProofs only [go_sem, ↓reduceIte, keyV_some, Option.isSome_some, eF_nil]
                ((repeat' (with_reducible refine And.intro ?_ ?_)); all_goals try (first | omega | (refine ⟨?_, ?_⟩ <;> omega) | (exact rfl)))
                all_goals trace_state
              | none =>
                simp -dsimp -implicitDefEqProofs only [go_sem, ↓reduceIte]
                refine ⟨(i + 1, ⟨tr, st, []⟩), ⟨by omega, g1, rfl, x4⟩, by simp only; omega, ?_⟩
                rw [hO]
                simp -dsimp -implicitDefEqProofs only [go_sem, ↓reduceIte, keyV_none, Option.isSome_none, eF_nil]
                ((repeat' (with_reducible refine And.intro ?_ ?_)); all_goals try (first | omega | (refine ⟨?_, ?_⟩ <;> omega) | (exact rfl)))
                all_goals trace_state
          | false =>
            rw [if_neg (by simp)] at x4
            simp -dsimp -implicitDefEqProofs only [go_sem, ↓reduceIte]
            refine sCallS_one hnx (by simp [noLabs, labs, labsL, isClo]) ?_
            cases o with
            | some k2 =>
              simp -dsimp -implicitDefEqProofs only [go_sem, ↓reduceIte]
              refine ⟨(i + 1, ⟨tries + 1, stop, []⟩), ⟨by omega, by simp only; omega, rfl, x4⟩, by simp only; omega, ?_⟩
              rw [hO]
              simp -dsimp -implicitDefEqProofs only [go_sem, ↓reduceIte, keyV_some, Option.isSome_some, eF_nil]
              ((repeat' (with_reducible refine And.intro ?_ ?_)); all_goals try (first | omega | (refine ⟨?_, ?_⟩ <;> omega) | (exact rfl)))
              all_goals trace_state
            | none =>
              simp -dsimp -implicitDefEqProofs only [go_sem, ↓reduceIte]
              refine ⟨(i + 1, ⟨tries + 1, stop, []⟩), ⟨by omega, by simp only; omega, rfl, x4⟩, by simp only; omega, ?_⟩
              rw [hO]
              simp -dsimp -implicitDefEqProofs only [go_sem, ↓reduceIte, keyV_none, Option.isSome_none, eF_nil]
              ((repeat' (with_reducible refine And.intro ?_ ?_)); all_goals try (first | omega | (refine ⟨?_, ?_⟩ <;> omega) | (exact rfl)))
              all_goals trace_state
      · have gn : (allK m)[i]? = none := List.getElem?_eq_none hi
        rw [List.drop_of_length_le hi, goF] at x4
        subst x4
        rw [gn]
        simp -dsimp -implicitDefEqProofs only [pick_nil, pick_cons, look_nil, look_cons, dropB_nil, dropB_cons, inD_nil, inD_cons, inE_nil, inE_cons, or_t_l, or_f_l, Nat.reduceBEq, Nat.reduceDiv, Nat.reduceAdd, beq_self_eq_true, uq0, uq1, ↓reduceIte, Nat.reduceEqDiff, uq2, uq3]
        simp -dsimp -implicitDefEqProofs only [go_sem, ↓reduceIte, keyV_none, Option.isSome_none, eF_nil]
        ((repeat' (with_reducible refine And.intro ?_ ?_)); all_goals try (first | omega | (refine ⟨?_, ?_⟩ <;> omega) | (exact rfl)))
        all_goals trace_state
set_option maxHeartbeats 16000000 in
theorem c_l17From0 (m : MkM) (t : List (List Int)) (lim : Nat) (hm : isMk m = true) (ht : TabOk t) (hl : lim ≤ 4000) (d v : Nat) (z : SS) (hd0 : d + 1 = t.length) (hz1 : z.tries ≤ lim) (hz2 : z.found = []) :
    FnMR Tryz.prog 202 [sB v m t lim z] [.ptr 1000000000 v 0 0, .val (.slice none 0 0), .val (.slice none 0 0)] (fun x io => x = eB (fromF m t lim (d + 1) [] z).1 ∧ io = [sB v m t lim (fromF m t lim (d + 1) [] z).2]) := by
  have ⟨⟨n1, n2⟩, n3, n4⟩ := isMk_num hm
  have hK := fun k (hk : k ∈ allK m) => allK_ok (m := m) (by omega) hk
  have ⟨⟨ht1, ht2⟩, ht3, ht4⟩ := ht
  obtain ⟨k0, hk1, hf⟩ := firstKey hm
  refine FnMR.of_vc 105 [.tmp 6] Tryz.func202 rfl rfl rfl rfl rfl (of_decide_eq_true rfl) ?_
  have hln : ((0 : Int) == (t.length : Int)) = false := by simp; omega
  have hd : ([] : List (List Int)).length + (d + 1) = t.length := by simp; omega
  have hp : ∀ k ∈ ([] : List (List Int)), k ∈ allK m := fun k h => by cases h
  obtain ⟨RR, hR⟩ : ∃ RR, fromF m t lim (d + 1) [] z = RR := ⟨_, rfl⟩
  rw [hR]
  unfold fromF at hR
  obtain ⟨tries0, stop0, found0⟩ := z
  simp only at hz1 hz2
  subst hz2
  simp -dsimp -implicitDefEqProofs only [go_sem, ↓reduceIte, hln, eF_nil]
  refine sCallS_one hf (by simp [noLabs, labs, labsL, isClo]) ?_
  have h00 : decide ((0 : Int) > 0) = false := rfl
  simp -dsimp -implicitDefEqProofs only [go_sem, ↓reduceIte, h00]
  have hdr : goF m t lim [] (fromF m t lim d) ((allK m).drop 0) ⟨tries0, stop0, []⟩ = RR := hR
  clear hR
  refine Later.lp [0, 1] [83, 89, 93, 102] [1000000000] (fun x : Nat × SS => x.1 ≤ (allK m).length ∧ x.2.tries ≤ lim ∧ x.2.found = [] ∧ goF m t lim [] (fromF m t lim d) ((allK m).drop x.1) x.2 = RR) (fun x => [(8, eB ((allK m)[x.1]?).isSome), (7, keyV ((allK m)[x.1]?))])
    (fun x => [(1000000000, sB v m t lim x.2)]) (fun x => (allK m).length - x.1) (0, ⟨tries0, stop0, []⟩) ⟨Nat.zero_le _, hz1, rfl, hdr⟩ ?_ rfl (fun x hx => ?_)
  · rw [hk1]
    simp -dsimp -implicitDefEqProofs only [go_sem, ↓reduceIte, keyV_some, Option.isSome_some, eF_nil]
    ((repeat' (with_reducible refine And.intro ?_ ?_)); all_goals try (first | omega | (refine ⟨?_, ?_⟩ <;> omega) | (exact rfl)))
    all_goals trace_state
  · obtain ⟨i, z⟩ := x
    obtain ⟨x1, x2, x3, x4⟩ := hx
    obtain ⟨tries, stop, found⟩ := z
    simp only at x1 x2 x3 x4 ⊢
    subst x3
    rcases Nat.lt_or_ge i (allK m).length with hi | hi
    · have gi := get_some hi
      have hki := hK _ (List.getElem_mem hi)
      have hkm := List.getElem_mem hi
      rw [List.drop_eq_getElem_cons hi] at x4
      generalize (allK m)[i] = k at *
      have hnx := c_l02Next m k hm hki.len hki.el
      rw [next_all (by omega) gi, optR_eq] at hnx
      have hw := (c_l16With [] k (by simp)).subs (args' := [.val (.slice none 0 0), eIs k]) (.cons (.nil _) (.cons (.refl _) .nil))
      have hp2 : ∀ x ∈ [] ++ [k], x ∈ allK m := fun x hx => by
        rcases List.mem_append.1 hx with hx | hx
        · exact hp x hx
        · simp at hx; subst hx; exact hkm
      have ho := c_l16Open m t ([] ++ [k]) hm (by simp) (by simp only [uq3, List.length_singleton]; omega) (by omega) ht3 ht4 (fun x hx => (hK x (hp2 x hx)).len)
      have hrec := fun z => c_l17From m t lim hm ht hl d v ([] ++ [k]) z (by simp only [uq3, List.length_singleton]; omega) hp2
      have hrok := fun z h1 h2 => fromF_ok (m := m) (t := t) (lim := lim) d ([] ++ [k]) z hp2 h1 h2
      unfold goF at x4
      rw [gi]
      generalize hO : (allK m)[i + 1]? = o at *
      generalize openP m t ([] ++ [k]) = b at *
      clear hK
      cases htl : ((tries : Int) == (lim : Int)) with
      | true =>
        rw [htl, if_pos rfl] at x4
        subst x4
        simp -dsimp -implicitDefEqProofs only [pick_nil, pick_cons, look_nil, look_cons, dropB_nil, dropB_cons, inD_nil, inD_cons, inE_nil, inE_cons, or_t_l, or_f_l, Nat.reduceBEq, Nat.reduceDiv, Nat.reduceAdd, beq_self_eq_true, uq0, uq1, ↓reduceIte, Nat.reduceEqDiff, uq2, uq3]
        simp -dsimp -implicitDefEqProofs only [go_sem, ↓reduceIte, keyV_some, Option.isSome_some, eF_nil]
        refine Later.draw mixed rfl ?_
        simp -dsimp -implicitDefEqProofs only [go_sem, ↓reduceIte, htl]
        ((repeat' (with_reducible refine And.intro ?_ ?_)); all_goals try (first | omega | (refine ⟨?_, ?_⟩ <;> omega) | (exact rfl)))
        all_goals trace_state
      | false =>
        have htl' : tries ≠ lim := fun e => by rw [e] at htl; simp at htl
        rw [htl, if_neg (by simp)] at x4
        simp -dsimp -implicitDefEqProofs only [pick_nil, pick_cons, look_nil, look_cons, dropB_nil, dropB_cons, inD_nil, inD_cons, inE_nil, inE_cons, or_t_l, or_f_l, Nat.reduceBEq, Nat.reduceDiv, Nat.reduceAdd, beq_self_eq_true, uq0, uq1, ↓reduceIte, Nat.reduceEqDiff, uq2, uq3]
        simp -dsimp -implicitDefEqProofs only [go_sem, ↓reduceIte, keyV_some, Option.isSome_some, eF_nil]
        refine Later.draw mixed rfl ?_
        simp -dsimp -implicitDefEqProofs only [go_sem, ↓reduceIte, htl]
        ((repeat' (with_reducible refine And.intro ?_ ?_)); all_goals try (first | omega | (refine ⟨?_, ?_⟩ <;> omega) | (exact rfl)))
        refine sCallS_one hw (by simp [noLabs, labs, labsL, isClo]) ?_
        simp -dsimp -implicitDefEqProofs only [go_sem, ↓reduceIte]
        ((repeat' (with_reducible refine And.intro ?_ ?_)); all_goals try (first | omega | (refine ⟨?_, ?_⟩ <;> omega) | (exact rfl)))
        refine sCallT_one ho ?_
        cases b with
        | true =>
          rw [if_pos rfl] at x4
          have hrec := hrec ⟨tries + 1, stop, []⟩ (by simp only; omega) rfl
          have hrok := hrok ⟨tries + 1, stop, []⟩ (by simp only; omega) rfl
          generalize fromF m t lim d ([] ++ [k]) ⟨tries + 1, stop, []⟩ = F at *
          obtain ⟨bb, tr, st, fd⟩ := F
          obtain ⟨g1, g2, g3, g4⟩ := hrok
          simp only at g1 g2 g3 x4
          cases bb with
          | true =>
            rw [if_pos rfl] at x4
            subst x4
            simp -dsimp -implicitDefEqProofs only [go_sem, ↓reduceIte]
            refine sCallT_ioR [1000000000] ?_
            cases fd with
            | nil =>
              simp -dsimp -implicitDefEqProofs only [go_sem, ↓reduceIte, eF_nil]
              refine sCallMR_any hrec ?_
              rintro _ _ ⟨rfl, rfl⟩
              simp -dsimp -implicitDefEqProofs only [go_sem, ↓reduceIte, eF_nil]
              ((repeat' (with_reducible refine And.intro ?_ ?_)); all_goals try (first | omega | (refine ⟨?_, ?_⟩ <;> omega) | (exact rfl)))
              all_goals trace_state
            | cons f r =>
              obtain rfl : r = [] := by cases r with | nil => rfl | cons => simp at g3
              simp -dsimp -implicitDefEqProofs only [go_sem, ↓reduceIte, eF_nil]
              refine sCallMR_any hrec ?_
              rintro _ _ ⟨rfl, rfl⟩
              simp -dsimp -implicitDefEqProofs only [go_sem, ↓reduceIte, eF_one]
              ((repeat' (with_reducible refine And.intro ?_ ?_)); all_goals try (first | omega | (refine ⟨?_, ?_⟩ <;> omega) | (exact rfl)))
              all_goals trace_state
          | false =>
            rw [if_neg (by simp)] at x4
            obtain rfl := g2 rfl
            simp -dsimp -implicitDefEqProofs only [go_sem, ↓reduceIte]
            refine sCallT_ioR [1000000000] ?_
            simp -dsimp -implicitDefEqProofs only [go_sem, ↓reduceIte, eF_nil]
            refine sCallMR_any hrec ?_
            rintro _ _ ⟨rfl, rfl⟩
            simp -dsimp -implicitDefEqProofs only [go_sem, ↓reduceIte, eF_nil]
            ((repeat' (with_reducible refine And.intro ?_ ?_)); all_goals try (first | omega | (refine ⟨?_, ?_⟩ <;> omega) | (exact rfl)))
            refine sCallS_one hnx (by simp [noLabs, labs, labsL, isClo]) ?_
            cases o with
            | some k2 =>
              simp -dsimp -implicitDefEqProofs only [go_sem, ↓reduceIte]
              refine ⟨(i + 1, ⟨tr, st, []⟩), ⟨by omega, g1, rfl, x4⟩, by simp only; omega, ?_⟩
              rw [hO]
              simp -dsimp -implicitDefEqProofs only [go_sem, ↓reduceIte, keyV_some, Option.isSome_some, eF_nil]
              ((repeat' (with_reducible refine And.intro ?_ ?_)); all_goals try (first | omega | (refine ⟨?_, ?_⟩ <;> omega) | (exact rfl)))
              all_goals trace_state
            | none =>
              simp -dsimp -implicitDefEqProofs only [go_sem, ↓reduceIte]
              refine ⟨(i + 1, ⟨tr, st, []⟩), ⟨by omega, g1, rfl, x4⟩, by simp only; omega, ?_⟩
              rw [hO]
              simp -dsimp -implicitDefEqProofs only [go_sem, ↓reduceIte, keyV_none, Option.isSome_none, eF_nil]
              ((repeat' (with_reducible refine And.intro ?_ ?_)); all_goals try (first | omega | (refine ⟨?_, ?_⟩ <;> omega) | (exact rfl)))
              all_goals trace_state
        | false =>
          rw [if_neg (by simp)] at x4
          simp -dsimp -implicitDefEqProofs only [go_sem, ↓reduceIte]
          refine sCallS_one hnx (by simp [noLabs, labs, labsL, isClo]) ?_
          cases o with
          | some k2 =>
            simp -dsimp -implicitDefEqProofs only [go_sem, ↓reduceIte]
            refine ⟨(i + 1, ⟨tries + 1, stop, []⟩), ⟨by omega, by simp only; omega, rfl, x4⟩, by simp only; omega, ?_⟩
            rw [hO]
            simp -dsimp -implicitDefEqProofs only [go_sem, ↓reduceIte, keyV_some, Option.isSome_some, eF_nil]
            ((repeat' (with_reducible refine And.intro ?_ ?_)); all_goals try (first | omega | (refine ⟨?_, ?_⟩ <;> omega) | (exact rfl)))
            all_goals trace_state
          | none =>
            simp -dsimp -implicitDefEqProofs only [go_sem, ↓reduceIte]
            refine ⟨(i + 1, ⟨tries + 1, stop, []⟩), ⟨by omega, by simp only; omega, rfl, x4⟩, by simp only; omega, ?_⟩
            rw [hO]
            simp -dsimp -implicitDefEqProofs only [go_sem, ↓reduceIte, keyV_none, Option.isSome_none, eF_nil]
            ((repeat' (with_reducible refine And.intro ?_ ?_)); all_goals try (first | omega | (refine ⟨?_, ?_⟩ <;> omega) | (exact rfl)))
            all_goals trace_state
    · have gn : (allK m)[i]? = none := List.getElem?_eq_none hi
      rw [List.drop_of_length_le hi, goF] at x4
      subst x4
      rw [gn]
      simp -dsimp -implicitDefEqProofs only [pick_nil, pick_cons, look_nil, look_cons, dropB_nil, dropB_cons, inD_nil, inD_cons, inE_nil, inE_cons, or_t_l, or_f_l, Nat.reduceBEq, Nat.reduceDiv, Nat.reduceAdd, beq_self_eq_true, uq0, uq1, ↓reduceIte, Nat.reduceEqDiff, uq2, uq3]
      simp -dsimp -implicitDefEqProofs only [go_sem, ↓reduceIte, keyV_none, Option.isSome_none, eF_nil]
      ((repeat' (with_reducible refine And.intro ?_ ?_)); all_goals try (first | omega | (refine ⟨?_, ?_⟩ <;> omega) | (exact rfl)))
      all_goals trace_state
def l17C (m : MkM) (t : List (List Int)) (lim : Int) : Int := if isSy m t = true then (if isIn lim 0 4000 = true then 0 else 2) else 1
theorem c_l17Code (m : MkM) (t : List (List Int)) (lim : Int) (h : t.length ≤ 1048576) (h2 : ∀ x ∈ t, x.length ≤ 1048576) : Fn Tryz.prog 149 [eSy m t, eI lim] true (· = eI (l17C m t lim)) := by
  have hs := c_sIsSystem m t h h2
  unfold l17C
  refine Fn.of_vcN 11 [.tmp 4] Tryz.func149 rfl rfl rfl rfl rfl (of_decide_eq_true rfl) ?_
  cases hsy : isSy m t with
  | false =>
    rw [hsy] at hs
    simp -dsimp -implicitDefEqProofs only [go_sem, ↓reduceIte]
    refine sCallT_one hs ?_
    simp -dsimp -implicitDefEqProofs only [go_sem, ↓reduceIte]
    ((repeat' (with_reducible refine And.intro ?_ ?_)); all_goals try (first | omega | (refine ⟨?_, ?_⟩ <;> omega) | (exact rfl)))
    all_goals first | (simp; done) | trace_state
  | true =>
    rw [hsy] at hs
    have hi := c_l01In lim 0 4000
    cases hin : isIn lim 0 4000 with
    | false =>
      rw [hin] at hi
      simp -dsimp -implicitDefEqProofs only [go_sem, ↓reduceIte]
      refine sCallT_one hs ?_
      simp -dsimp -implicitDefEqProofs only [go_sem, ↓reduceIte]
      refine sCallT_one hi ?_
      simp -dsimp -implicitDefEqProofs only [go_sem, ↓reduceIte]
      ((repeat' (with_reducible refine And.intro ?_ ?_)); all_goals try (first | omega | (refine ⟨?_, ?_⟩ <;> omega) | (exact rfl)))
      all_goals first | (simp; done) | trace_state
    | true =>
      rw [hin] at hi
      simp -dsimp -implicitDefEqProofs only [go_sem, ↓reduceIte]
      refine sCallT_one hs ?_
      simp -dsimp -implicitDefEqProofs only [go_sem, ↓reduceIte]
      refine sCallT_one hi ?_
      simp -dsimp -implicitDefEqProofs only [go_sem, ↓reduceIte]
      ((repeat' (with_reducible refine And.intro ?_ ?_)); all_goals try (first | omega | (refine ⟨?_, ?_⟩ <;> omega) | (exact rfl)))
      all_goals first | (simp; done) | trace_state
def fV (z : SS) : AV := match z.found with
  | f :: _ => .tup [eIss f, eI z.tries, eI 0]
  | [] => .tup [.val (.slice none 0 0), eI 0, eI (if z.stop = true then 3 else 4)]
theorem c_l17First (v : Nat) (m : MkM) (t : List (List Int)) (lim : Nat) (z : SS) (h1 : z.found.length ≤ 1) (h2 : ∀ f ∈ z.found, f.length ≤ 1000 ∧ ∀ k ∈ f, k.length ≤ 1000) :
    FnMR Tryz.prog 150 [sB v m t lim z] [.ptr 1000000000 v 0 0] (fun x io => x = fV z ∧ io = [sB v m t lim z]) := by
  refine FnMR.of_vc 26 [.tmp 2, .tmp 3, .tmp 4] Tryz.func150 rfl rfl rfl rfl rfl (of_decide_eq_true rfl) ?_
  obtain ⟨tries, stop, found⟩ := z
  have h00 : decide ((0 : Int) > 0) = false := rfl
  have h10 : decide (((1 : Nat) : Int) > 0) = true := rfl
  simp only at h1 h2
  cases found with
  | nil =>
    cases stop with
    | true =>
      simp -dsimp -implicitDefEqProofs only [go_sem, ↓reduceIte, eF_nil, fV, h00]
      ((repeat' (with_reducible refine And.intro ?_ ?_)); all_goals try (first | omega | (refine ⟨?_, ?_⟩ <;> omega) | (exact rfl)))
      all_goals first | (simp; done) | trace_state
    | false =>
      simp -dsimp -implicitDefEqProofs only [go_sem, ↓reduceIte, eF_nil, fV, h00]
      ((repeat' (with_reducible refine And.intro ?_ ?_)); all_goals try (first | omega | (refine ⟨?_, ?_⟩ <;> omega) | (exact rfl)))
      all_goals first | (simp; done) | trace_state
  | cons f r =>
    obtain rfl : r = [] := by cases r with | nil => rfl | cons => simp at h1
    have ho := h2 f (List.mem_cons_self ..)
    have hq := c_l15Lists f ho.1 (fun x hx => by have := ho.2 x hx; omega)
    simp -dsimp -implicitDefEqProofs only [go_sem, ↓reduceIte, eF_one, fV, h10]
    refine Later.draw mixed rfl ?_
    simp -dsimp -implicitDefEqProofs only [go_sem, ↓reduceIte, eF_one]
    ((repeat' (with_reducible refine And.intro ?_ ?_)); all_goals try (first | omega | (refine ⟨?_, ?_⟩ <;> omega) | (exact rfl)))
    refine sCallXS_one hq (by simp [noLabs, labs, labsL, isClo]) ?_
    simp -dsimp -implicitDefEqProofs only [go_sem, ↓reduceIte, eF_one]
    ((repeat' (with_reducible refine And.intro ?_ ?_)); all_goals try (first | omega | (refine ⟨?_, ?_⟩ <;> omega) | (exact rfl)))
    all_goals first | (simp; done) | trace_state
def findV (m : MkM) (t : List (List Int)) (lim : Nat) : AV := if l17C m t lim = 0 then fV (fromF m t lim t.length [] ⟨0, false, []⟩).2 else .tup [.val (.slice none 0 0), eI 0, eI (l17C m t lim)]
theorem isSy_tab {m : MkM} {t : List (List Int)} (h : isSy m t = true) : isMk m = true ∧ TabOk t := by
  have ⟨h1, h2, h3, h4, h5⟩ := isSy_num h
  simp only [isSy, Bool.and_eq_true] at h
  exact ⟨h.1.1, ⟨h1, by omega⟩, h5, by omega⟩
theorem c_FindDesign (m : MkM) (t : List (List Int)) (lim : Nat) (h : t.length ≤ 1048576) (h2 : ∀ x ∈ t, x.length ≤ 1048576) (hlim : lim ≤ 4000) : Fn Tryz.prog 123 [eSy m t, eI lim] false (· = findV m t lim) := by
  refine Fn.of_vcS 21 [.tmp 4, .tmp 5, .tmp 6] Tryz.func123 rfl rfl rfl rfl rfl (of_decide_eq_true rfl) ?_
  have hc := c_l17Code m t lim h h2
  unfold findV
  cases hz : (l17C m t lim != 0) with
  | true =>
    have hz' : l17C m t lim ≠ 0 := by simpa using hz
    rw [if_neg hz']
    simp -dsimp -implicitDefEqProofs only [go_sem, ↓reduceIte]
    refine sCallT_one hc ?_
    simp -dsimp -implicitDefEqProofs only [go_sem, ↓reduceIte, hz]
    ((repeat' (with_reducible refine And.intro ?_ ?_)); all_goals try (first | omega | (refine ⟨?_, ?_⟩ <;> omega) | (exact rfl)))
    all_goals first | (simp; done) | trace_state
  | false =>
    have hz' : l17C m t lim = 0 := by simpa using hz
    rw [if_pos hz']
    have hs : isSy m t = true := by
      cases h : isSy m t with
      | true => rfl
      | false => rw [l17C, h, if_neg (by simp)] at hz'; exact absurd hz' (by decide)
    obtain ⟨hm, ht⟩ := isSy_tab hs
    have hfr := fun v => c_l17From0 m t lim hm ht hlim (t.length - 1) v ⟨0, false, []⟩ (by have := ht.n; omega) (Nat.zero_le _) rfl
    have hok := fromF_ok (m := m) (t := t) (lim := lim) t.length [] ⟨0, false, []⟩ (fun k h => by cases h) (Nat.zero_le _) rfl
    rw [show t.length - 1 + 1 = t.length by have := ht.n; omega] at hfr
    have hfi := fun v z h1 h2 => c_l17First v m t lim z h1 h2
    have hmk := isMk_num hm
    have htn := ht.n
    generalize fromF m t lim t.length [] ⟨0, false, []⟩ = F at *
    obtain ⟨b, z⟩ := F
    obtain ⟨g1, g2, g3, g4⟩ := hok
    simp only at g1 g2 g3 g4 hfr ⊢
    have hfi := fun v => hfi v z g3 (fun f hf => ⟨by have := (g4 f hf).1; simp at this; omega, fun k hk => by have := (allK_ok (m := m) (by omega) ((g4 f hf).2 k hk)).len; omega⟩)
    simp -dsimp -implicitDefEqProofs only [go_sem, ↓reduceIte]
    refine sCallT_one hc ?_
    simp -dsimp -implicitDefEqProofs only [go_sem, ↓reduceIte, hz]
    have h10 : decide ((1 : Int) > 0) = true := rfl
    refine sCallT_inl 900000 21 [.tmp 8] Tryz.func151 rfl rfl rfl rfl rfl (by exact of_decide_eq_true rfl) ?_
    simp -dsimp -implicitDefEqProofs only [go_sem, ↓reduceIte, h10]
    refine sCallT_ioR [14] ?_
    obtain ⟨tr, st, fd⟩ := z
    simp only at g1 g2 g3 g4
    cases fd with
    | nil =>
      simp -dsimp -implicitDefEqProofs only [go_sem, ↓reduceIte]
      refine sCallMR_any (hfr _) ?_
      rintro _ _ ⟨rfl, rfl⟩
      simp -dsimp -implicitDefEqProofs only [go_sem, ↓reduceIte, eF_nil]
      refine sCallT_ioR [900014] ?_
      simp -dsimp -implicitDefEqProofs only [go_sem, ↓reduceIte]
      refine sCallMR_any (hfi _) ?_
      rintro _ _ ⟨rfl, rfl⟩
      simp -dsimp -implicitDefEqProofs only [go_sem, ↓reduceIte, fV]
      ((repeat' (with_reducible refine And.intro ?_ ?_)); all_goals try (first | omega | (refine ⟨?_, ?_⟩ <;> omega) | (exact rfl)))
      all_goals first | (simp; done) | trace_state
    | cons f r =>
      obtain rfl : r = [] := by cases r with | nil => rfl | cons => simp at g3
      simp -dsimp -implicitDefEqProofs only [go_sem, ↓reduceIte]
      refine sCallMR_any (hfr _) ?_
      rintro _ _ ⟨rfl, rfl⟩
      simp -dsimp -implicitDefEqProofs only [go_sem, ↓reduceIte, eF_one]
      refine sCallT_ioR [900014] ?_
      simp -dsimp -implicitDefEqProofs only [go_sem, ↓reduceIte]
      refine sCallMR_any (hfi _) ?_
      rintro _ _ ⟨rfl, rfl⟩
      simp -dsimp -implicitDefEqProofs only [go_sem, ↓reduceIte, fV]
      ((repeat' (with_reducible refine And.intro ?_ ?_)); all_goals try (first | omega | (refine ⟨?_, ?_⟩ <;> omega) | (exact rfl)))
      all_goals first | (simp; done) | trace_state
end Go.Vc


set_option linter.unusedVariables false
set_option linter.unusedSimpArgs false
set_option linter.unnecessarySimpa false
namespace Go.Vc
open Go.Proofs
set_option maxRecDepth 100000
set_option maxHeartbeats 4000000
def DesP (bs : List UInt8) (v : Nat) (x : AV) (io : List Blk) : Prop := ∃ (m : MkM) (t cuts : List (List Int)) (s : Src), SrcOk s ∧ t.length ≤ 11 ∧ (∀ x ∈ t, x.length ≤ 13) ∧ cuts.length ≤ 11 ∧ (∀ x ∈ cuts, x.length ≤ 8) ∧ x = .tup [eSy m t, eIss cuts] ∧ io = [srcB v bs s]
theorem findV_cases (m : MkM) (t : List (List Int)) (lim : Nat) : (∃ (f : List (List Int)) (tr : Nat), findV m t lim = .tup [eIss f, eI tr, eI 0] ∧ f.length ≤ t.length ∧ ∀ k ∈ f, k ∈ allK m) ∨ ∃ c : Int, (c == 0) = false ∧ findV m t lim = .tup [.val (.slice none 0 0), eI 0, eI c] := by
  unfold findV
  by_cases h : l17C m t lim = 0
  · rw [if_pos h]
    have hok := fromF_ok (m := m) (t := t) (lim := lim) t.length [] ⟨0, false, []⟩ (fun k h => by cases h) (Nat.zero_le _) rfl
    generalize fromF m t lim t.length [] ⟨0, false, []⟩ = F at *
    obtain ⟨b, tr, st, fd⟩ := F
    obtain ⟨g1, g2, g3, g4⟩ := hok
    simp only at g1 g2 g3 g4 ⊢
    cases fd with
    | nil => exact .inr ⟨if st = true then 3 else 4, by cases st <;> rfl, by cases st <;> rfl⟩
    | cons f r =>
      have := g4 f (List.mem_cons_self ..)
      exact .inl ⟨f, tr, rfl, by have := this.1; simp at this; omega, this.2⟩
  · rw [if_neg h]
    exact .inr ⟨_, by simpa using h, rfl⟩
set_option maxHeartbeats 8000000 in
theorem c_l21Draw (v : Nat) (bs : List UInt8) (s : Src) (h : SrcOk s) (hl : bs.length ≤ 4096) :
    FnMR Tryz.prog 90 [srcB v bs s] [.ptr 1000000000 v 0 0] (DesP bs v) := by
  unfold DesP
  refine FnMR.of_vc 59 [.cell 2 28, .tmp 3] Tryz.func90 rfl rfl rfl rfl rfl (of_decide_eq_true rfl) ?_
  have q16 := fun v => c_l01Next v bs 16 s h hl
  have a := (nx_ok bs 16 h).2.2.2
  generalize nx bs 16 s = n at *
  simp -dsimp -implicitDefEqProofs only [go_sem, ↓reduceIte]
  (refine sCallT_io [1000000000] ?_; simp -dsimp -implicitDefEqProofs only [go_sem, ↓reduceIte]; refine sCallM_one (q16 _) ?_; simp -dsimp -implicitDefEqProofs only [go_sem, ↓reduceIte])
  cases h0 : (n.1 == 0) with
  | true =>
    have qd := fun v => c_l15Draw v bs n.2 a hl
    have ho := sysD_ok bs a
    generalize sysD bs n.2 = D at *
    obtain ⟨o1, o2, o3, o4, o5⟩ := ho
    simp -dsimp -implicitDefEqProofs only [go_sem, ↓reduceIte, h0]
    refine sCallT_ioR [1000000000] ?_
    simp -dsimp -implicitDefEqProofs only [go_sem, ↓reduceIte]
    refine sCallMR_any (qd _) ?_
    rintro _ _ ⟨rfl, rfl⟩
    simp -dsimp -implicitDefEqProofs only [go_sem, ↓reduceIte]
    ((repeat' (with_reducible refine And.intro ?_ ?_)); all_goals try (first | omega | (refine ⟨?_, ?_⟩ <;> omega) | (exact rfl)))
    all_goals first
      | (exact ⟨D.m, D.t, D.cuts, D.src, o1, o2, o3, by omega, o5, rfl, rfl⟩)
      | trace_state
  | false =>
    have qv := fun v => c_l15ValidR v bs n.2 a hl
    have ho := sysT_ok bs a
    generalize sysT bs n.2 = T at *
    generalize (mkV bs n.2).1 = m at *
    obtain ⟨T, s1⟩ := T
    obtain ⟨o1, o2, o3, o4, o5⟩ := ho
    simp only at o1 o3 o4 o5 qv
    have ⟨⟨n1, n2⟩, n3, n4⟩ := isMk_num o2
    have hK := fun k (hk : k ∈ allK m) => allK_ok (m := m) (by omega) hk
    have hrow : ∀ x ∈ T, x.length ≤ 13 := fun x hx => by
      obtain ⟨i, hi, rfl⟩ := List.getElem_of_mem hx
      rw [o5 i hi]; omega
    have hlenK : ∀ (p : List (List Int)), (∀ k ∈ p, k ∈ allK m) → ∀ x ∈ p, x.length ≤ 8 := fun p hp x hx => by
      have := (hK x (hp x hx)).len; omega
    simp -dsimp -implicitDefEqProofs only [go_sem, ↓reduceIte, h0]
    refine sCallT_ioR [1000000000] ?_
    simp -dsimp -implicitDefEqProofs only [go_sem, ↓reduceIte]
    refine sCallMR_any (qv _) ?_
    rintro _ _ ⟨rfl, rfl⟩
    simp -dsimp -implicitDefEqProofs only [go_sem, ↓reduceIte]
    refine Later.lp [0, 2, 4] [21, 24, 28, 30, 36, 37, 40, 41] [19, 1000000000] (fun x : List (List Int) × Src => SrcOk x.2 ∧ x.1.length ≤ T.length ∧ ∀ k ∈ x.1, k ∈ allK m) (fun x => [(5, .ref 19 0 0 x.1.length)]) (fun x => [(19, .row 0 ⟨1, false⟩ x.1.isEmpty (x.1.map eIs)), (1000000000, srcB v bs x.2)])
      (fun x => T.length - x.1.length) ([], s1) ⟨o1, Nat.zero_le _, fun k h => by cases h⟩ ?_ rfl (fun x hx => ?_)
    · simp -dsimp -implicitDefEqProofs only [go_sem, ↓reduceIte, List.isEmpty_nil, List.length_nil, List.map_nil]
      ((repeat' (with_reducible refine And.intro ?_ ?_)); all_goals try (first | omega | (refine ⟨?_, ?_⟩ <;> omega) | (exact rfl)))
      all_goals trace_state
    · obtain ⟨p, s2⟩ := x
      obtain ⟨x1, x2, x3⟩ := hx
      simp only at x1 x2 x3 ⊢
      have tp : (p.map eIs).take p.length = p.map eIs := uq4 (by simp)
      cases hlt : decide ((p.length : Int) < (T.length : Int)) with
      | true =>
        have hlt' := of_decide_eq_true hlt
        have qc := fun v => c_l16CandidatesM v m T p 8 o2 (by omega) (by omega) (by omega) o5 (by omega) (fun x hx => (hK x (x3 x hx)).len)
        have hcl := candL_len m T p 8
        have hcm := fun k (hk : k ∈ candL m T p 8) => candL_mem hk
        generalize candL m T p 8 = C at *
        simp -dsimp -implicitDefEqProofs only [pick_nil, pick_cons, look_nil, look_cons, dropB_nil, dropB_cons, inD_nil, inD_cons, inE_nil, inE_cons, or_t_l, or_f_l, Nat.reduceBEq, Nat.reduceDiv, Nat.reduceAdd, beq_self_eq_true, uq0, uq1, ↓reduceIte, Nat.reduceEqDiff, uq2, uq3]
        simp -dsimp -implicitDefEqProofs only [go_sem, ↓reduceIte, hlt]
        refine sCallT_ioR [19] ?_
        simp -dsimp -implicitDefEqProofs only [go_sem, ↓reduceIte]
        refine sCallMR_any (qc _) ?_
        rintro _ _ ⟨rfl, rfl⟩
        simp -dsimp -implicitDefEqProofs only [go_sem, ↓reduceIte]
        cases C with
        | nil =>
          have e00 : (((0 : Nat) : Int) == 0) = true := rfl
          simp -dsimp -implicitDefEqProofs only [go_sem, ↓reduceIte, List.length_nil, e00, hlt, List.map_nil]
          refine sCallS_one (c_FindDesign m T 300 (by omega) (fun x hx => by have := hrow x hx; omega) (by omega)) (by simp [noLabs, labs, labsL, isClo]) ?_
          rcases findV_cases m T 300 with ⟨f, tr, e, f1, f2⟩ | ⟨c, e1, e⟩
          · rw [e]
            have zeroEq : ((0 : Int) == 0) = true := rfl
            simp -dsimp -implicitDefEqProofs only [go_sem, ↓reduceIte, zeroEq]
            ((repeat' (with_reducible refine And.intro ?_ ?_)); all_goals try (first | omega | (refine ⟨?_, ?_⟩ <;> omega) | (exact rfl)))
            all_goals first
              | (exact ⟨m, T, f, s2, x1, by omega, hrow, by omega, hlenK f f2, rfl, rfl⟩)
              | trace_state
          · rw [e]
            simp -dsimp -implicitDefEqProofs only [go_sem, ↓reduceIte, e1]
            ((repeat' (with_reducible refine And.intro ?_ ?_)); all_goals try (first | omega | (refine ⟨?_, ?_⟩ <;> omega) | (exact rfl)))
            all_goals first
              | (refine ⟨m, T, p, s2, x1, by omega, hrow, by omega, hlenK p x3, ?_⟩; simp [tp, eIs]; done)
              | trace_state
        | cons c0 C =>
          have hC1 : 1 ≤ (c0 :: C).length := by simp
          generalize c0 :: C = C at *
          have ene : ((C.length : Int) == 0) = false := by rw [beq_eq_false_iff_ne]; omega
          have qn := fun v => c_l01Next v bs C.length s2 x1 hl
          have hn := nx_ok bs C.length x1
          have hj := nx_lt bs hC1 x1
          generalize nx bs C.length s2 = n2 at *
          have gj := get_some hj.1
          have hjm := hcm _ (List.getElem_mem hj.1)
          generalize C[n2.1.toNat] = k at *
          have hE : p.isEmpty = false ∨ p.length = 0 := by cases p with | nil => exact .inr rfl | cons => exact .inl rfl
          have e2 : (p ++ [k]).map eIs = p.map eIs ++ [eIs k] := by simp
          have e3 : (p ++ [k]).isEmpty = false := by simp
          simp -dsimp -implicitDefEqProofs only [go_sem, ↓reduceIte, ene]
          (refine sCallT_io [1000000000] ?_; simp -dsimp -implicitDefEqProofs only [go_sem, ↓reduceIte]; refine sCallM_one (qn _) ?_; simp -dsimp -implicitDefEqProofs only [go_sem, ↓reduceIte])
          simp -dsimp -implicitDefEqProofs only [go_sem, ↓reduceIte, gj]
          refine ⟨by omega, ?_⟩
          refine .inr ⟨by omega, hE, (p ++ [k], n2.2), ⟨hn.2.2.2, by simp; omega, fun x hx => ?_⟩, by simp; omega, ?_⟩
          · rcases List.mem_append.1 hx with hx | hx
            · exact x3 x hx
            · simp at hx; subst hx; exact hjm
          simp -dsimp -implicitDefEqProofs only [go_sem, ↓reduceIte, e2, e3, tp]
          ((repeat' (with_reducible refine And.intro ?_ ?_)); all_goals try (first | omega | (refine ⟨?_, ?_⟩ <;> omega) | (exact rfl)))
          all_goals first | (simp; done) | trace_state
      | false =>
        have hlt' := of_decide_eq_false hlt
        simp -dsimp -implicitDefEqProofs only [pick_nil, pick_cons, look_nil, look_cons, dropB_nil, dropB_cons, inD_nil, inD_cons, inE_nil, inE_cons, or_t_l, or_f_l, Nat.reduceBEq, Nat.reduceDiv, Nat.reduceAdd, beq_self_eq_true, uq0, uq1, ↓reduceIte, Nat.reduceEqDiff, uq2, uq3]
        simp -dsimp -implicitDefEqProofs only [go_sem, ↓reduceIte, hlt]
        ((repeat' (with_reducible refine And.intro ?_ ?_)); all_goals try (first | omega | (refine ⟨?_, ?_⟩ <;> omega) | (exact rfl)))
        all_goals first
          | (refine ⟨m, T, p, s2, x1, by omega, hrow, by omega, hlenK p x3, ?_⟩; simp [tp, eIs]; done)
          | trace_state
def ItD (x : ItM) : Prop := -1 ≤ x.index ∧ x.index ≤ 1000 ∧ 0 ≤ x.copies ∧ x.copies ≤ 51
def OrdP (bs : List UInt8) (v : Nat) (x : AV) (io : List Blk) : Prop := ∃ (m : MkM) (t cuts : List (List Int)) (os : List ItM) (s : Src), SrcOk s ∧ t.length ≤ 11 ∧ (∀ x ∈ t, x.length ≤ 13) ∧ cuts.length ≤ 11 ∧ (∀ x ∈ cuts, x.length ≤ 8) ∧ os.length ≤ 30 ∧ (∀ x ∈ os, ItD x) ∧
  x = .tup [eSy m t, eIss cuts, eIts os] ∧ io = [srcB v bs s]
set_option maxHeartbeats 16000000 in
theorem c_l29Draw (v : Nat) (bs : List UInt8) (s : Src) (h : SrcOk s) (hl : bs.length ≤ 4096) :
    FnMR Tryz.prog 47 [srcB v bs s] [.ptr 1000000000 v 0 0] (OrdP bs v) := by
  unfold OrdP
  refine FnMR.of_vc 87 [.cell 2 28, .tmp 3, .tmp 4] Tryz.func47 rfl rfl rfl rfl rfl (of_decide_eq_true rfl) ?_
  simp -dsimp -implicitDefEqProofs only [go_sem, ↓reduceIte]
  refine sCallT_ioR [1000000000] ?_
  simp -dsimp -implicitDefEqProofs only [go_sem, ↓reduceIte]
  refine sCallMR_any (c_l21Draw _ bs s h hl) ?_
  rintro _ _ ⟨m, t, cuts, s1, o1, t1, t2, t3, t4, rfl, rfl⟩
  have q6 := fun v => c_l01Next v bs 6 s1 o1 hl
  have a := nx_ok bs 6 o1
  have a3 := a.2.2.1 (by omega)
  generalize nx bs 6 s1 = n6 at *
  simp -dsimp -implicitDefEqProofs only [go_sem, ↓reduceIte]
  (refine sCallT_io [1000000000] ?_; simp -dsimp -implicitDefEqProofs only [go_sem, ↓reduceIte]; refine sCallM_one (q6 _) ?_; simp -dsimp -implicitDefEqProofs only [go_sem, ↓reduceIte])
  refine Later.lp [0, 2, 5, 6] [9, 23, 29, 32, 33, 40, 41, 48, 49, 53, 54] [15, 1000000000] (fun x : Nat × List ItM × Src => SrcOk x.2.2 ∧ x.1 + x.2.1.length ≤ 5 ∧ ∀ y ∈ x.2.1, ItD y) (fun x => [(8, eI x.1), (7, .ref 15 0 0 x.2.1.length)]) (fun x => [(15, .row 0 ⟨3, true⟩ true (x.2.1.map eIt)), (1000000000, srcB v bs x.2.2)])
    (fun x => x.1) (n6.1.toNat, [], n6.2) ⟨a.2.2.2, by simp; omega, fun x h => by cases h⟩ ?_ rfl (fun x hx => ?_)
  · simp -dsimp -implicitDefEqProofs only [go_sem, ↓reduceIte, List.length_nil, List.map_nil]
    ((repeat' (with_reducible refine And.intro ?_ ?_)); all_goals try (first | omega | (refine ⟨?_, ?_⟩ <;> omega) | (exact rfl)))
    all_goals first | (congr 1; omega) | trace_state
  · obtain ⟨k, os, s2⟩ := x
    obtain ⟨x1, x2, x3⟩ := hx
    simp only at x1 x2 x3 ⊢
    by_cases hgo : 0 < k ∧ 0 < t.length
    · obtain ⟨hk, htl⟩ := hgo
      have g1 : decide ((k : Int) > 0) = true := decide_eq_true (by omega)
      have g2 : decide ((t.length : Int) > 0) = true := decide_eq_true (by omega)
      have q2 := fun v => c_l01Next v bs 2 s2 x1 hl
      have b := (nx_ok bs 2 x1).2.2.2
      generalize nx bs 2 s2 = n2 at *
      simp -dsimp -implicitDefEqProofs only [pick_nil, pick_cons, look_nil, look_cons, dropB_nil, dropB_cons, inD_nil, inD_cons, inE_nil, inE_cons, or_t_l, or_f_l, Nat.reduceBEq, Nat.reduceDiv, Nat.reduceAdd, beq_self_eq_true, uq0, uq1, ↓reduceIte, Nat.reduceEqDiff, uq2, uq3]
      simp -dsimp -implicitDefEqProofs only [go_sem, ↓reduceIte, g1, g2]
      (refine sCallT_io [1000000000] ?_; simp -dsimp -implicitDefEqProofs only [go_sem, ↓reduceIte]; refine sCallM_one (q2 _) ?_; simp -dsimp -implicitDefEqProofs only [go_sem, ↓reduceIte])
      have qp := fun v v2 => c_l01Pick v v2 true bs [1, 1, 2, 3, 50] _ n2.2 rfl (by simp) (by simp) b hl
      have pm := pk_mem bs b (xs := [1, 1, 2, 3, 50]) (by simp)
      have po := pk_ok bs [1, 1, 2, 3, 50] b
      generalize pk bs [1, 1, 2, 3, 50] n2.2 = pp at *
      have pmB : 0 ≤ pp.1 ∧ pp.1 ≤ 51 := by simp only [List.mem_cons, List.not_mem_nil, or_false] at pm; omega
      have g0 := get_some htl
      have t0l := t2 _ (List.getElem_mem htl)
      generalize t[0] = r0 at *
      have qa := fun v => c_l01Next v bs r0.length pp.2 po hl
      have na := nx_ok bs r0.length po
      have naB : (nx bs r0.length pp.2).1 ≤ 13 := by
        by_cases h1 : (r0.length : Int) ≤ 1
        · rw [na.2.1 h1]; omega
        · have := na.2.2.1 (by omega); omega
      generalize nx bs r0.length pp.2 = n3 at *
      have qb := fun v => c_l01Next v bs t.length n3.2 na.2.2.2 hl
      have nb := nx_ok bs t.length na.2.2.2
      have nbB : (nx bs t.length n3.2).1 ≤ 13 := by
        by_cases h1 : (t.length : Int) ≤ 1
        · rw [nb.2.1 h1]; omega
        · have := nb.2.2.1 (by omega); omega
      generalize nx bs t.length n3.2 = n4 at *
      have tO : (os.map eIt).take os.length = os.map eIt := uq4 (by simp)
      have e2 := fun y : ItM => show (os ++ [y]).map eIt = os.map eIt ++ [eIt y] by simp
      (refine sCallT_io [1000000000, 32] ?_; simp -dsimp -implicitDefEqProofs only [go_sem, ↓reduceIte]; refine sCallM_one (qp _ _) ?_; simp -dsimp -implicitDefEqProofs only [go_sem, ↓reduceIte])
      ((repeat' (with_reducible refine And.intro ?_ ?_)); all_goals try (first | omega | (refine ⟨?_, ?_⟩ <;> omega) | (exact rfl)))
      simp -dsimp -implicitDefEqProofs only [go_sem, ↓reduceIte, g0]
      (refine sCallT_io [1000000000] ?_; simp -dsimp -implicitDefEqProofs only [go_sem, ↓reduceIte]; refine sCallM_one (qa _) ?_; simp -dsimp -implicitDefEqProofs only [go_sem, ↓reduceIte])
      cases hb : (n2.1 == 0) with
      | true =>
        simp -dsimp -implicitDefEqProofs only [go_sem, ↓reduceIte, hb]
        ((repeat' (with_reducible refine And.intro ?_ ?_)); all_goals try (first | omega | (refine ⟨?_, ?_⟩ <;> omega) | (exact rfl)))
        (refine sCallT_io [1000000000] ?_; simp -dsimp -implicitDefEqProofs only [go_sem, ↓reduceIte]; refine sCallM_one (qb _) ?_; simp -dsimp -implicitDefEqProofs only [go_sem, ↓reduceIte])
        ((repeat' (with_reducible refine And.intro ?_ ?_)); all_goals try (first | omega | (refine ⟨?_, ?_⟩ <;> omega) | (exact rfl)))
        all_goals try (refine ⟨(k - 1, os ++ [⟨true, n4.1, pp.1⟩], n4.2), ⟨nb.2.2.2, by simp; omega, fun y hy => ?_⟩, by simp only; omega, ?_⟩)
        all_goals try
          (rcases List.mem_append.1 hy with hy | hy
           · exact x3 y hy
           · simp at hy; subst hy; exact ⟨by simp only; omega, by simp only; omega, pmB⟩)
        all_goals (simp -dsimp -implicitDefEqProofs only [go_sem, ↓reduceIte, e2, tO])
        ((repeat' (with_reducible refine And.intro ?_ ?_)); all_goals try (first | omega | (refine ⟨?_, ?_⟩ <;> omega) | (exact rfl)))
        all_goals first | (simp; done) | (congr 1; omega) | trace_state
      | false =>
        simp -dsimp -implicitDefEqProofs only [go_sem, ↓reduceIte, hb]
        ((repeat' (with_reducible refine And.intro ?_ ?_)); all_goals try (first | omega | (refine ⟨?_, ?_⟩ <;> omega) | (exact rfl)))
        all_goals try (refine ⟨(k - 1, os ++ [⟨false, n3.1, pp.1⟩], n3.2), ⟨na.2.2.2, by simp; omega, fun y hy => ?_⟩, by simp only; omega, ?_⟩)
        all_goals try
          (rcases List.mem_append.1 hy with hy | hy
           · exact x3 y hy
           · simp at hy; subst hy; exact ⟨by simp only; omega, by simp only; omega, pmB⟩)
        all_goals (simp -dsimp -implicitDefEqProofs only [go_sem, ↓reduceIte, e2, tO])
        ((repeat' (with_reducible refine And.intro ?_ ?_)); all_goals try (first | omega | (refine ⟨?_, ?_⟩ <;> omega) | (exact rfl)))
        all_goals first | (simp; done) | (congr 1; omega) | trace_state
    · have hex : decide ((k : Int) > 0) = false ∨ (decide ((k : Int) > 0) = true ∧ decide ((t.length : Int) > 0) = false) := by
        by_cases h1 : 0 < k
        · exact .inr ⟨decide_eq_true (by omega), decide_eq_false (by omega)⟩
        · exact .inl (decide_eq_false (by omega))
      have q24 := fun v => c_l01Next v bs 24 s2 x1 hl
      have b := (nx_ok bs 24 x1).2.2.2
      generalize nx bs 24 s2 = n at *
      have tO : (os.map eIt).take os.length = os.map eIt := uq4 (by simp)
      have e2 := fun y : ItM => show (os ++ [y]).map eIt = os.map eIt ++ [eIt y] by simp
      rcases hex with g1 | ⟨g1, g2⟩
      case' inl =>
        simp -dsimp -implicitDefEqProofs only [pick_nil, pick_cons, look_nil, look_cons, dropB_nil, dropB_cons, inD_nil, inD_cons, inE_nil, inE_cons, or_t_l, or_f_l, Nat.reduceBEq, Nat.reduceDiv, Nat.reduceAdd, beq_self_eq_true, uq0, uq1, ↓reduceIte, Nat.reduceEqDiff, uq2, uq3]
        simp -dsimp -implicitDefEqProofs only [go_sem, ↓reduceIte, g1]
      case' inr =>
        simp -dsimp -implicitDefEqProofs only [pick_nil, pick_cons, look_nil, look_cons, dropB_nil, dropB_cons, inD_nil, inD_cons, inE_nil, inE_cons, or_t_l, or_f_l, Nat.reduceBEq, Nat.reduceDiv, Nat.reduceAdd, beq_self_eq_true, uq0, uq1, ↓reduceIte, Nat.reduceEqDiff, uq2, uq3]
        simp -dsimp -implicitDefEqProofs only [go_sem, ↓reduceIte, g1, g2]
      all_goals
        (refine sCallT_io [1000000000] ?_; simp -dsimp -implicitDefEqProofs only [go_sem, ↓reduceIte]; refine sCallM_one (q24 _) ?_; simp -dsimp -implicitDefEqProofs only [go_sem, ↓reduceIte])
        cases h0 : (n.1 == 0) with
        | true =>
          have q2 := fun v => c_l01Next v bs 2 n.2 b hl
          have c := (nx_ok bs 2 b).2.2.2
          generalize nx bs 2 n.2 = n2 at *
          have qp := fun v v2 => c_l01Pick v v2 true bs [-1, 0, 4, 9] _ n2.2 rfl (by simp) (by simp) c hl
          have pm := pk_mem bs c (xs := [-1, 0, 4, 9]) (by simp)
          have po := pk_ok bs [-1, 0, 4, 9] c
          generalize pk bs [-1, 0, 4, 9] n2.2 = pp at *
          have qp2 := fun v v2 => c_l01Pick v v2 true bs [0, 1, 51] _ pp.2 rfl (by simp) (by simp) po hl
          have pm2 := pk_mem bs po (xs := [0, 1, 51]) (by simp)
          have po2 := pk_ok bs [0, 1, 51] po
          generalize pk bs [0, 1, 51] pp.2 = pq at *
          have pB : -1 ≤ pp.1 ∧ pp.1 ≤ 9 := by simp only [List.mem_cons, List.not_mem_nil, or_false] at pm; omega
          have pB2 : 0 ≤ pq.1 ∧ pq.1 ≤ 51 := by simp only [List.mem_cons, List.not_mem_nil, or_false] at pm2; omega
          simp -dsimp -implicitDefEqProofs only [go_sem, ↓reduceIte, h0]
          (refine sCallT_io [1000000000] ?_; simp -dsimp -implicitDefEqProofs only [go_sem, ↓reduceIte]; refine sCallM_one (q2 _) ?_; simp -dsimp -implicitDefEqProofs only [go_sem, ↓reduceIte])
          (refine sCallT_io [1000000000, 64] ?_; simp -dsimp -implicitDefEqProofs only [go_sem, ↓reduceIte]; refine sCallM_one (qp _ _) ?_; simp -dsimp -implicitDefEqProofs only [go_sem, ↓reduceIte])
          (refine sCallT_io [1000000000, 67] ?_; simp -dsimp -implicitDefEqProofs only [go_sem, ↓reduceIte]; refine sCallM_one (qp2 _ _) ?_; simp -dsimp -implicitDefEqProofs only [go_sem, ↓reduceIte])
          ((repeat' (with_reducible refine And.intro ?_ ?_)); all_goals try (first | omega | (refine ⟨?_, ?_⟩ <;> omega) | (exact rfl)))
          refine ⟨m, t, cuts, os ++ [⟨n2.1 == 0, pp.1, pq.1⟩], pq.2, po2, t1, t2, t3, t4, by simp; omega, fun y hy => ?_, ?_⟩
          · rcases List.mem_append.1 hy with hy | hy
            · exact x3 y hy
            · simp at hy; subst hy; exact ⟨by simp only; omega, by simp only; omega, pB2⟩
          · rw [uq4 (by simp)]
            simp [eIts]
        | false =>
          cases h1 : (n.1 == 1) with
          | true =>
            simp -dsimp -implicitDefEqProofs only [go_sem, ↓reduceIte, h0, h1]
            refine Later.lp [0, 2, 5, 6] [75, 77, 82, 83] [15, 1000000000] (fun x : List ItM × Src => SrcOk x.2 ∧ x.1.length ≤ 22 ∧ ∀ y ∈ x.1, ItD y) (fun x => [(7, .ref 15 0 0 x.1.length)]) (fun x => [(15, .row 0 ⟨3, true⟩ true (x.1.map eIt)), (1000000000, srcB v bs x.2)])
              (fun x => 22 - x.1.length) (os, n.2) ⟨b, by simp only; omega, x3⟩ ?_ rfl (fun x hx => ?_)
            · simp -dsimp -implicitDefEqProofs only [go_sem, ↓reduceIte]
              ((repeat' (with_reducible refine And.intro ?_ ?_)); all_goals try (first | omega | (refine ⟨?_, ?_⟩ <;> omega) | (exact rfl)))
              all_goals trace_state
            · obtain ⟨ps, s3⟩ := x
              obtain ⟨y1, y2, y3⟩ := hx
              simp only at y1 y2 y3 ⊢
              have tP : (ps.map eIt).take ps.length = ps.map eIt := uq4 (by simp)
              have e3 := fun y : ItM => show (ps ++ [y]).map eIt = ps.map eIt ++ [eIt y] by simp
              have q2 := fun v => c_l01Next v bs 2 s3 y1 hl
              have c := nx_ok bs 2 y1
              have c3 := c.2.2.1 (by omega)
              generalize nx bs 2 s3 = n2 at *
              simp -dsimp -implicitDefEqProofs only [pick_nil, pick_cons, look_nil, look_cons, dropB_nil, dropB_cons, inD_nil, inD_cons, inE_nil, inE_cons, or_t_l, or_f_l, Nat.reduceBEq, Nat.reduceDiv, Nat.reduceAdd, beq_self_eq_true, uq0, uq1, ↓reduceIte, Nat.reduceEqDiff, uq2, uq3]
              simp -dsimp -implicitDefEqProofs only [go_sem, ↓reduceIte]
              (refine sCallT_io [1000000000] ?_; simp -dsimp -implicitDefEqProofs only [go_sem, ↓reduceIte]; refine sCallM_one (q2 _) ?_; simp -dsimp -implicitDefEqProofs only [go_sem, ↓reduceIte])
              ((repeat' (with_reducible refine And.intro ?_ ?_)); all_goals try (first | omega | (refine ⟨?_, ?_⟩ <;> omega) | (exact rfl)))
              cases hlt : decide ((ps.length : Int) < 20 + n2.1) with
              | true =>
                have hlt' := of_decide_eq_true hlt
                simp -dsimp -implicitDefEqProofs only [go_sem, ↓reduceIte, hlt]
                ((repeat' (with_reducible refine And.intro ?_ ?_)); all_goals try (first | omega | (refine ⟨?_, ?_⟩ <;> omega) | (exact rfl)))
                all_goals try (refine ⟨(ps ++ [⟨false, 0, 1⟩], n2.2), ⟨c.2.2.2, by simp; omega, fun y hy => ?_⟩, by simp; omega, ?_⟩)
                all_goals try
                  (rcases List.mem_append.1 hy with hy | hy
                   · exact y3 y hy
                   · simp at hy; subst hy; exact ⟨by decide, by decide, by decide, by decide⟩)
                all_goals (simp -dsimp -implicitDefEqProofs only [go_sem, ↓reduceIte, e3, tP])
                ((repeat' (with_reducible refine And.intro ?_ ?_)); all_goals try (first | omega | (refine ⟨?_, ?_⟩ <;> omega) | (exact rfl)))
                all_goals first | (simp; done) | trace_state
              | false =>
                simp -dsimp -implicitDefEqProofs only [go_sem, ↓reduceIte, hlt]
                ((repeat' (with_reducible refine And.intro ?_ ?_)); all_goals try (first | omega | (refine ⟨?_, ?_⟩ <;> omega) | (exact rfl)))
                all_goals try
                  (refine ⟨m, t, cuts, ps, n2.2, c.2.2.2, t1, t2, t3, t4, by omega, y3, ?_⟩
                   simp [tP, eIts])
                all_goals trace_state
          | false =>
            simp -dsimp -implicitDefEqProofs only [go_sem, ↓reduceIte, h0, h1]
            ((repeat' (with_reducible refine And.intro ?_ ?_)); all_goals try (first | omega | (refine ⟨?_, ?_⟩ <;> omega) | (exact rfl)))
            refine ⟨m, t, cuts, os, n.2, b, t1, t2, t3, t4, by omega, x3, ?_⟩
            simp [tO, eIts]
end Go.Vc


set_option linter.unusedVariables false
set_option linter.unusedSimpArgs false
set_option linter.unnecessarySimpa false
namespace Go.Vc
open Go.Proofs Go.Lib
set_option maxRecDepth 100000
attribute [go_sem] Option.map_none Nat.sub_zero List.take_length List.size_toArray ba_append ba_size ba_list ba_extract ba_data
theorem str_beq (a b : List UInt8) : (a == b) = decide (a = b) := by
  by_cases h : a = b
  · simp [h]
  · simp [h]
attribute [go_sem] str_beq
theorem u8_wrap {x : Int} (h : 0 ≤ x ∧ x < 256) : IntKind.u8.wrap x = x := by
  simp [IntKind.wrap, IntKind.bits, IntKind.signed]
  omega
theorem dec_low {n : Nat} (h : n < 10) : decDigits n = [UInt8.ofNat (48 + n)] := decDigits_one h
theorem dec_high {n : Nat} (h : ¬ n < 10) : decDigits n = decDigits (n / 10) ++ [UInt8.ofNat (48 + n % 10)] := by rw [decDigits, dif_neg h]
theorem dec_length_le {n : Nat} (h : n < 18446744073709551616) : (decDigits n).length ≤ 20 := by
  rw [decDigits_length]; exact nDigits_le20 n h
theorem c_l01Dec : ∀ (n : Nat), n ≤ 1000000000000000000 → Fn Tryz.prog 89 [eI n] true (· = eS (decDigits n)) := by
  intro n
  induction n using Nat.strongRecOn with
  | _ n ih =>
    intro hn
    refine Fn.of_vcN 20 [.tmp 2] Tryz.func89 rfl rfl rfl rfl rfl (of_decide_eq_true rfl) ?_
    simp -dsimp -implicitDefEqProofs only [go_sem, ↓reduceIte]
    by_cases h : n < 10
    · have hd : decide ((n : Int) < 10) = true := decide_eq_true (by omega)
      have hw : IntKind.u8.wrap (48 + (n : Int)) = 48 + (n : Int) := u8_wrap (by omega)
      have ht : (48 + (n : Int)).toNat = 48 + n := by omega
      rw [dec_low h]
      simp -dsimp -implicitDefEqProofs only [go_sem, ↓reduceIte, hd, hw, ht]
      repeat' (with_reducible refine And.intro ?_ ?_)
      all_goals first | omega | (refine ⟨?_, ?_⟩ <;> omega) | (exact rfl) | (simp; done) | trace_state
    · have hd : decide ((n : Int) < 10) = false := decide_eq_false (by omega)
      have hq : (n : Int).tdiv 10 = ((n / 10 : Nat) : Int) := by rw [Int.tdiv_eq_ediv_of_nonneg (by omega)]; omega
      have hr : (n : Int).tmod 10 = ((n % 10 : Nat) : Int) := by rw [Int.tmod_eq_emod_of_nonneg (by omega)]; omega
      have hw : IntKind.u8.wrap (48 + ((n % 10 : Nat) : Int)) = 48 + ((n % 10 : Nat) : Int) := u8_wrap (by omega)
      have ht : (48 + ((n % 10 : Nat) : Int)).toNat = 48 + n % 10 := by omega
      have hl := dec_length_le (n := n / 10) (by omega)
      have hc := ih (n / 10) (by omega) (by omega)
      rw [dec_high h]
      simp -dsimp -implicitDefEqProofs only [go_sem, ↓reduceIte, hd]
      refine Later.draw mixed rfl ?_
      simp -dsimp -implicitDefEqProofs only [go_sem, ↓reduceIte, hq, hr]
      repeat' (with_reducible refine And.intro ?_ ?_)
      all_goals try (first | omega | (refine ⟨?_, ?_⟩ <;> omega) | (exact rfl) | (simp; done))
      refine sCallX_one hc ?_
      have hz : n % 10 < 10 := Nat.mod_lt _ (by decide)
      generalize n % 10 = z at *
      simp -dsimp -implicitDefEqProofs only [go_sem, ↓reduceIte, hr, hw, ht]
      repeat' (with_reducible refine And.intro ?_ ?_)
      all_goals first | omega | (refine ⟨?_, ?_⟩ <;> omega) | (exact rfl) | (simp; done) | trace_state
theorem c_l01DecI (n : Int) (h : 0 ≤ n ∧ n ≤ 1000000000000000000) : Fn Tryz.prog 89 [eI n] true (· = eS (itoa n)) := by
  have := c_l01Dec n.toNat (by omega)
  rw [show ((n.toNat : Nat) : Int) = n by omega] at this
  rw [itoa_of_nonneg h.1]; exact this
theorem c_text {n : Int} (h : I64 n) : Fn Tryz.prog 87 [eI n] true (· = eS (itoa n)) := by
  refine Fn.of_vcN 5 [.tmp 2] Tryz.func87 rfl rfl rfl rfl rfl (of_decide_eq_true rfl) ?_
  simp -dsimp -implicitDefEqProofs only [go_sem, ↓reduceIte]
  refine sCallT_one (c_FormatInt h) ?_
  simp -dsimp -implicitDefEqProofs only [go_sem, ↓reduceIte]
theorem numI_eq (s : List UInt8) : numI s = (intEnd s, intOk s && decide (itoa (intEnd s) = s)) := by
  unfold numI intEnd intOk
  cases parseIntB 64 s <;> simp
theorem intEnd_64 (s : List UInt8) : I64 (intEnd s) := by
  unfold intEnd
  rcases hp : parseIntB 64 s with v | _ | _
  · exact parse_bound hp
  · unfold I64; simp
  · simp only [intSat]
    split <;> simp [I64]
theorem c_number (s : List UInt8) (h : s.length ≤ 1048576) : Fn Tryz.prog 93 [eS s] true (· = .tup [eI (numI s).1, eB (numI s).2]) := by
  refine Fn.of_vcN 20 [.tmp 2, .tmp 3] Tryz.func93 rfl rfl rfl rfl rfl (of_decide_eq_true rfl) ?_
  simp -dsimp -implicitDefEqProofs only [go_sem, ↓reduceIte]
  refine sCallT_any (c_ParseInt s h) ?_
  rintro _ ⟨e, rfl, he⟩
  rw [numI_eq]
  have h64 := intEnd_64 s
  have hl := itoa_len h64
  generalize intEnd s = v at *
  rcases ho : intOk s with _ | _
  · rw [ho] at he
    simp only [uq0, if_false] at he
    obtain ⟨t, p, rfl⟩ := he
    simp -dsimp -implicitDefEqProofs only [go_sem, ↓reduceIte]
    repeat' (with_reducible refine And.intro ?_ ?_)
    all_goals first | omega | (exact rfl) | (simp; done) | trace_state
  · rw [ho] at he
    simp only [if_true] at he
    subst he
    simp -dsimp -implicitDefEqProofs only [go_sem, ↓reduceIte]
    repeat' (with_reducible refine And.intro ?_ ?_)
    all_goals try (first | omega | (exact rfl))
    refine sCallT_one (c_text h64) ?_
    simp -dsimp -implicitDefEqProofs only [go_sem, ↓reduceIte]
    repeat' (with_reducible refine And.intro ?_ ?_)
    all_goals first | omega | (exact rfl) | (simp; done) | trace_state
theorem partN_take (c : UInt8) (s : List UInt8) : partN c s = if ((spl c s).all fun w => (numI w).2) = true then ((spl c s).map fun w => (numI w).1, true) else ([], false) := rfl
theorem spl_part_len (c : UInt8) : ∀ (l : List UInt8), ∀ w ∈ spl c l, w.length ≤ l.length
  | [], w, hw => by simp [spl] at hw; simp [hw]
  | b :: l, w, hw => by
    have ih := spl_part_len c l
    rw [spl] at hw
    split at hw
    · rcases List.mem_cons.1 hw with rfl | hw
      · simp
      · have := ih w hw; simp; omega
    · split at hw
      · rename_i h t he
        rcases List.mem_cons.1 hw with rfl | hw
        · have := ih h (by rw [he]; exact List.mem_cons_self ..); simp; omega
        · have := ih w (by rw [he]; exact List.mem_cons_of_mem _ hw); simp; omega
      · simp at hw; simp [hw]
theorem c_parted (s : List UInt8) (c : UInt8) (h : s.length ≤ 1048575) : Fn Tryz.prog 52 [eS s, eS [c]] true (· = .tup [eIs (partN c s).1, eB (partN c s).2]) := by
  refine Fn.of_vcN 33 [.tmp 4, .tmp 5] Tryz.func52 rfl rfl rfl rfl rfl (of_decide_eq_true rfl) ?_
  have hpl := spl_part_len c s
  have hsl := spl_length_le c s
  simp -dsimp -implicitDefEqProofs only [go_sem, ↓reduceIte]
  refine sCallT_one (c_Split s c (by omega)) ?_
  rw [partN_take]
  generalize spl c s = ws at *
  simp -dsimp -implicitDefEqProofs only [go_sem, ↓reduceIte]
  refine Later.up [14, 15] [22, 29, 30] [11] ws.length (fun i => ((ws.take i).all fun w => (numI w).2) = true) (fun i => [(6, .ref 11 0 0 i), (16, eI i)]) (fun i => [(11, .row 0 ⟨1, false⟩ true (((ws.take i).map fun w => (numI w).1).map eI))]) rfl ?_ rfl (fun i hi hI => ?_) (fun hI => ?_)
  · simp -dsimp -implicitDefEqProofs only [go_sem, ↓reduceIte]
  · have gi := get_some hi
    have hw := hpl ws[i] (List.getElem_mem hi)
    have hall := all_take (fun w => (numI w).2) ws i hi
    have hno := fun h => all_no (p := fun w => (numI w).2) hi h
    have htk : ws.take (i + 1) = ws.take i ++ [ws[i]] := List.take_succ_eq_append_getElem hi
    rw [htk] at hall ⊢
    generalize ws[i] = w at *
    have hcn := c_number w (by omega)
    obtain ⟨q, hq0⟩ : ∃ q, numI w = q := ⟨_, rfl⟩
    rw [hq0] at hcn hno hall
    rcases hq : q.2 with _ | _
    · have hz := hno hq
      simp -dsimp -implicitDefEqProofs only [pick_nil, pick_cons, look_nil, look_cons, dropB_nil, dropB_cons, inD_nil, inD_cons, inE_nil, inE_cons, or_t_l, or_f_l, Nat.reduceBEq, Nat.reduceDiv, Nat.reduceAdd, beq_self_eq_true, uq0, uq1, ↓reduceIte, Nat.reduceEqDiff, uq2, uq3]
      simp -dsimp -implicitDefEqProofs only [go_sem, ↓reduceIte, lt_len hi, gi]
      repeat' (with_reducible refine And.intro ?_ ?_)
      all_goals try (first | omega | (refine ⟨?_, ?_⟩ <;> omega))
      refine sCallT_one hcn ?_
      simp -dsimp -implicitDefEqProofs only [go_sem, ↓reduceIte, hq]
      rw [if_neg (by rw [hz]; decide)]
      all_goals first | (exact rfl) | (simp; done) | trace_state
    · simp -dsimp -implicitDefEqProofs only [pick_nil, pick_cons, look_nil, look_cons, dropB_nil, dropB_cons, inD_nil, inD_cons, inE_nil, inE_cons, or_t_l, or_f_l, Nat.reduceBEq, Nat.reduceDiv, Nat.reduceAdd, beq_self_eq_true, uq0, uq1, ↓reduceIte, Nat.reduceEqDiff, uq2, uq3]
      simp -dsimp -implicitDefEqProofs only [go_sem, ↓reduceIte, lt_len hi, gi]
      repeat' (with_reducible refine And.intro ?_ ?_)
      all_goals try (first | omega | (refine ⟨?_, ?_⟩ <;> omega))
      refine sCallT_one hcn ?_
      simp -dsimp -implicitDefEqProofs only [go_sem, ↓reduceIte, hq]
      repeat' (with_reducible refine And.intro ?_ ?_)
      all_goals first | omega | (refine ⟨?_, ?_⟩ <;> omega) | (rw [hall, hI, hq]; rfl) | (simp; done) | (simp; omega) | (simp [hq0, List.map_take]; done) | trace_state
  · rw [List.take_length] at hI
    rw [if_pos hI]
    simp -dsimp -implicitDefEqProofs only [pick_nil, pick_cons, look_nil, look_cons, dropB_nil, dropB_cons, inD_nil, inD_cons, inE_nil, inE_cons, or_t_l, or_f_l, Nat.reduceBEq, Nat.reduceDiv, Nat.reduceAdd, beq_self_eq_true, uq0, uq1, ↓reduceIte, Nat.reduceEqDiff, uq2, uq3]
    simp -dsimp -implicitDefEqProofs only [go_sem, ↓reduceIte, nlt_len, List.take_length]
    repeat' (with_reducible refine And.intro ?_ ?_)
    all_goals first | omega | (exact rfl) | (simp; done) | (rw [uq4 (by simp)]; done) | trace_state
end Go.Vc


set_option linter.unusedVariables false
set_option linter.unusedSimpArgs false
set_option linter.unnecessarySimpa false
namespace Go.Vc
open Go.Proofs Go.Lib
set_option maxRecDepth 100000
def splSt (c : UInt8) (s : List UInt8) : Nat → List (List UInt8) × Nat
  | 0 => ([], 0)
  | i + 1 => if i = s.length ∨ s.getD i 0 = c then ((splSt c s i).1 ++ [(s.take i).drop (splSt c s i).2], i + 1) else splSt c s i
theorem drop_mid {α : Type} {s : List α} {i j : Nat} {x : α} (h : s[i]? = some x) (hj : j ≤ i) : s.drop j = (s.take i).drop j ++ x :: s.drop (i + 1) := by
  obtain ⟨hlt, he⟩ := List.getElem?_eq_some_iff.1 h
  have e : s.take i ++ x :: s.drop (i + 1) = s := by rw [← he, ← List.drop_eq_getElem_cons hlt, List.take_append_drop]
  rw [← List.drop_append_of_le_length (by simp; omega), e]
theorem splSt_inv (c : UInt8) (s : List UInt8) : ∀ i, i ≤ s.length → spl c s = (splSt c s i).1 ++ spl c (s.drop (splSt c s i).2) ∧ (splSt c s i).2 ≤ i ∧ c ∉ (s.take i).drop (splSt c s i).2 ∧ (splSt c s i).1.length ≤ i
  | 0, _ => by simp [splSt]
  | i + 1, hi => by
    obtain ⟨h1, h2, h3, h4⟩ := splSt_inv c s i (by omega)
    have hlt : i < s.length := by omega
    have hg : s.getD i 0 = s[i] := by rw [List.getD_eq_getElem?_getD, List.getElem?_eq_getElem hlt]; rfl
    rw [splSt]
    by_cases hc : s[i] = c
    · rw [if_pos (.inr (by rw [hg]; exact hc))]
      dsimp only
      refine ⟨?_, Nat.le_refl _, ?_, by simp; omega⟩
      · rw [List.append_assoc, h1]
        congr 1
        have e := drop_mid (s := s) (i := i) (j := (splSt c s i).2) (by rw [List.getElem?_eq_getElem hlt, hc]) h2
        rw [e, spl_app _ h3]; rfl
      · rw [List.drop_eq_nil_of_le (by simp; omega)]; exact List.not_mem_nil
    · rw [if_neg (by rw [hg]; rintro (h | h); · omega
                     · exact hc h)]
      refine ⟨h1, by omega, ?_, by omega⟩
      rw [List.take_succ_eq_append_getElem hlt, List.drop_append]
      intro hm
      rcases List.mem_append.1 hm with hm | hm
      · exact h3 hm
      · have : (s.take i).length = i := by simp; omega
        rw [this, show (splSt c s i).2 - i = 0 by omega] at hm
        simp at hm
        exact hc hm.symm
theorem splSt_end (c : UInt8) (s : List UInt8) : (splSt c s (s.length + 1)).1 = spl c s := by
  obtain ⟨h1, h2, h3, h4⟩ := splSt_inv c s s.length (Nat.le_refl _)
  rw [splSt, if_pos (.inl rfl)]
  rw [List.take_length] at h3 ⊢
  rw [h1, spl_none h3]
theorem splSt_le (c : UInt8) (s : List UInt8) : ∀ i, (splSt c s i).1.length ≤ i ∧ (splSt c s i).2 ≤ i
  | 0 => by simp [splSt]
  | i + 1 => by
    have := splSt_le c s i
    rw [splSt]
    split
    · simp; omega
    · omega
theorem u8_eq (a b : UInt8) : (((a.toNat : Int) == (b.toNat : Int)) = true) ↔ a = b := by
  rw [beq_iff_eq]
  constructor
  · intro h; exact UInt8.toNat_inj.1 (by omega)
  · intro h; rw [h]
theorem c_l01Split (s : List UInt8) (c : UInt8) (h : s.length ≤ 1048576) : Fn Tryz.prog 55 [eS s, .val (.int .u8 c.toNat)] true (· = eSs (spl c s)) := by
  refine Fn.of_vcN 36 [.tmp 4] Tryz.func55 rfl rfl rfl rfl rfl (of_decide_eq_true rfl) ?_
  simp -dsimp -implicitDefEqProofs only [go_sem, ↓reduceIte]
  refine Later.up [0, 1] [11, 17, 31, 32] [8] (s.length + 1) (fun _ => True) (fun i => [(5, .ref 8 0 0 (splSt c s i).1.length), (6, eI ((splSt c s i).2 : Nat)), (7, eI i)]) (fun i => [(8, .row 0 ⟨1, false⟩ true ((splSt c s i).1.map eS))]) trivial ?_ rfl (fun i hi _ => ?_) (fun _ => ?_)
  · simp -dsimp -implicitDefEqProofs only [go_sem, ↓reduceIte]
    simp [splSt]
  · have hle := splSt_le c s i
    have d1 : decide ((i : Int) ≤ (s.length : Int)) = true := decide_eq_true (by omega)
    have hst : splSt c s (i + 1) = if i = s.length ∨ s.getD i 0 = c then ((splSt c s i).1 ++ [(s.take i).drop (splSt c s i).2], i + 1) else splSt c s i := rfl
    rw [hst]
    clear hst
    generalize splSt c s i = q at *
    obtain ⟨out, fr⟩ := q
    dsimp only at hle ⊢
    rcases he : ((i : Int) == (s.length : Int)) with _ | _
    · have hne : i ≠ s.length := by intro e; subst e; simp at he
      have hlt : i < s.length := by omega
      have hg : s.getD i 0 = s[i] := by rw [List.getD_eq_getElem?_getD, List.getElem?_eq_getElem hlt]; rfl
      have hu := u8_eq s[i] c
      rw [hg]
      generalize s[i] = b at *
      rcases hb : ((b.toNat : Int) == (c.toNat : Int)) with _ | _
      · have hbc : b ≠ c := fun e => by rw [hu.2 e] at hb; cases hb
        rw [if_neg (by rintro (w | w); · exact hne w
                       · exact hbc w)]
        simp -dsimp -implicitDefEqProofs only [pick_nil, pick_cons, look_nil, look_cons, dropB_nil, dropB_cons, inD_nil, inD_cons, inE_nil, inE_cons, or_t_l, or_f_l, Nat.reduceBEq, Nat.reduceDiv, Nat.reduceAdd, beq_self_eq_true, uq0, uq1, ↓reduceIte, Nat.reduceEqDiff, uq2, uq3]
        simp -dsimp -implicitDefEqProofs only [go_sem, ↓reduceIte, d1, he, hg, hb]
        repeat' (with_reducible refine And.intro ?_ ?_)
        all_goals (first | omega | (refine ⟨?_, ?_⟩ <;> omega) | (exact rfl) | (simp; done) | trace_state)
      · rw [if_pos (.inr (hu.1 hb))]
        simp -dsimp -implicitDefEqProofs only [pick_nil, pick_cons, look_nil, look_cons, dropB_nil, dropB_cons, inD_nil, inD_cons, inE_nil, inE_cons, or_t_l, or_f_l, Nat.reduceBEq, Nat.reduceDiv, Nat.reduceAdd, beq_self_eq_true, uq0, uq1, ↓reduceIte, Nat.reduceEqDiff, uq2, uq3]
        simp -dsimp -implicitDefEqProofs only [go_sem, ↓reduceIte, d1, he, hg, hb]
        repeat' (with_reducible refine And.intro ?_ ?_)
        all_goals try (first | omega | (refine ⟨?_, ?_⟩ <;> omega) | (refine ⟨?_, ?_, ?_⟩ <;> omega))
        all_goals try simp -dsimp -implicitDefEqProofs only [go_sem, ↓reduceIte]
        repeat' (with_reducible refine And.intro ?_ ?_)
        all_goals first | omega | (refine ⟨?_, ?_⟩ <;> omega) | (refine ⟨?_, ?_, ?_⟩ <;> omega) | (simp; done) | (exact rfl) | trace_state
    · have hq : i = s.length := by have := beq_iff_eq.1 he; omega
      rw [if_pos (.inl hq)]
      simp -dsimp -implicitDefEqProofs only [pick_nil, pick_cons, look_nil, look_cons, dropB_nil, dropB_cons, inD_nil, inD_cons, inE_nil, inE_cons, or_t_l, or_f_l, Nat.reduceBEq, Nat.reduceDiv, Nat.reduceAdd, beq_self_eq_true, uq0, uq1, ↓reduceIte, Nat.reduceEqDiff, uq2, uq3]
      simp -dsimp -implicitDefEqProofs only [go_sem, ↓reduceIte, d1, he]
      repeat' (with_reducible refine And.intro ?_ ?_)
      all_goals try (first | omega | (refine ⟨?_, ?_⟩ <;> omega) | (refine ⟨?_, ?_, ?_⟩ <;> omega))
      all_goals try simp -dsimp -implicitDefEqProofs only [go_sem, ↓reduceIte]
      repeat' (with_reducible refine And.intro ?_ ?_)
      all_goals first | omega | (refine ⟨?_, ?_⟩ <;> omega) | (refine ⟨?_, ?_, ?_⟩ <;> omega) | (simp; done) | (exact rfl) | trace_state
  · have d1 : decide (((s.length + 1 : Nat) : Int) ≤ (s.length : Int)) = false := decide_eq_false (by omega)
    rw [splSt_end]
    simp -dsimp -implicitDefEqProofs only [pick_nil, pick_cons, look_nil, look_cons, dropB_nil, dropB_cons, inD_nil, inD_cons, inE_nil, inE_cons, or_t_l, or_f_l, Nat.reduceBEq, Nat.reduceDiv, Nat.reduceAdd, beq_self_eq_true, uq0, uq1, ↓reduceIte, Nat.reduceEqDiff, uq2, uq3]
    simp -dsimp -implicitDefEqProofs only [go_sem, ↓reduceIte, d1]
    all_goals first | (simp; done) | (exact rfl) | trace_state
theorem isd_u8 (b : UInt8) : (decide (48 ≤ b.toNat) && decide (b.toNat ≤ 57)) = (!(decide ((b.toNat : Int) < 48) || decide ((b.toNat : Int) > 57))) := by
  by_cases h1 : 48 ≤ b.toNat
  · by_cases h2 : b.toNat ≤ 57
    · rw [decide_eq_true h1, decide_eq_true h2, decide_eq_false (by omega), decide_eq_false (by omega)]; rfl
    · rw [decide_eq_true h1, decide_eq_false h2, decide_eq_false (by omega), decide_eq_true (by omega)]; rfl
  · rw [decide_eq_false h1, decide_eq_true (show (b.toNat : Int) < 48 by omega)]; rfl
abbrev isDig (b : UInt8) : Bool := decide (48 ≤ b.toNat) && decide (b.toNat ≤ 57)
theorem pow13 {n : Nat} (h : n ≤ 13) : 10 ^ n ≤ 10000000000000 := by
  have := Nat.pow_le_pow_right (show 0 < 10 by decide) h
  exact this
theorem c_l01Value (s : List UInt8) (h : s.length ≤ 1048576) : Fn Tryz.prog 56 [eS s] true (· = .tup [eI (valD s).1, eB (valD s).2]) := by
  refine Fn.of_vcN 43 [.tmp 2, .tmp 3] Tryz.func56 rfl rfl rfl rfl rfl (of_decide_eq_true rfl) ?_
  unfold valD
  rcases h1 : decide ((s.length : Int) < 1) with _ | _
  · rcases h13 : decide ((s.length : Int) > 13) with _ | _
    · have g1 := of_decide_eq_false h1
      have g2 := of_decide_eq_false h13
      rw [if_neg (by omega)]
      have hv : ∀ i, i ≤ s.length → ((s.take i).all isDig) = true → dval 0 (s.take i) ≤ 10000000000000 := by
        intro i hi hall
        have h3 := dval_lt (s.take i) 0 (fun c hc => by have := List.all_eq_true.1 hall c hc; simpa [isDig] using this)
        have h4 := pow13 (n := (s.take i).length) (by simp; omega)
        rw [Nat.zero_add, Nat.one_mul] at h3
        omega
      simp -dsimp -implicitDefEqProofs only [go_sem, ↓reduceIte, h1, h13]
      refine Later.up [0] [16] [] s.length (fun i => ((s.take i).all isDig) = true) (fun i => [(4, eI ((dval 0 (s.take i) : Nat) : Int)), (5, eI i)]) (fun _ => []) rfl ?_ rfl (fun i hi hI => ?_) (fun hI => ?_)
      · simp -dsimp -implicitDefEqProofs only [go_sem, ↓reduceIte]
        exact rfl
      · have hb := (s[i]).toNat_lt
        have hg : (s.getD i 0) = s[i] := by rw [List.getD_eq_getElem?_getD, List.getElem?_eq_getElem hi]; rfl
        have hall := all_take isDig s i hi
        have hno := fun h => all_no (p := isDig) hi h
        have hdv : dval 0 (s.take (i + 1)) = dval 0 (s.take i) * 10 + ((s[i]).toNat - 48) := by rw [List.take_succ_eq_append_getElem hi, dval_app]; rfl
        have hv1 := hv i (by omega) hI
        have hd := isd_u8 s[i]
        rw [hdv]
        clear hdv hv
        generalize s[i] = b at *
        generalize dval 0 (s.take i) = z at *
        rcases d1 : decide ((b.toNat : Int) < 48) with _ | _
        · rcases d2 : decide ((b.toNat : Int) > 57) with _ | _
          · have e1 := of_decide_eq_false d1
            have e2 := of_decide_eq_false d2
            have hw : IntKind.u8.wrap ((b.toNat : Int) - 48) = (b.toNat : Int) - 48 := u8_wrap (by omega)
            simp -dsimp -implicitDefEqProofs only [pick_nil, pick_cons, look_nil, look_cons, dropB_nil, dropB_cons, inD_nil, inD_cons, inE_nil, inE_cons, or_t_l, or_f_l, Nat.reduceBEq, Nat.reduceDiv, Nat.reduceAdd, beq_self_eq_true, uq0, uq1, ↓reduceIte, Nat.reduceEqDiff, uq2, uq3]
            simp -dsimp -implicitDefEqProofs only [go_sem, ↓reduceIte, lt_len hi, hg, d1, d2, hw]
            repeat' (with_reducible refine And.intro ?_ ?_)
            all_goals first | omega | (refine ⟨?_, ?_⟩ <;> omega) | (rw [hall, hI]; show isDig b = true; rw [isDig, hd, d1, d2]; rfl) | (simp; omega) | (simp; done) | trace_state
          · have hz := hno (by rw [isDig, hd, d1, d2]; rfl)
            rw [if_neg (by rw [show (s.all fun c => decide (48 ≤ c.toNat) && decide (c.toNat ≤ 57)) = s.all isDig from rfl, hz]; decide)]
            simp -dsimp -implicitDefEqProofs only [pick_nil, pick_cons, look_nil, look_cons, dropB_nil, dropB_cons, inD_nil, inD_cons, inE_nil, inE_cons, or_t_l, or_f_l, Nat.reduceBEq, Nat.reduceDiv, Nat.reduceAdd, beq_self_eq_true, uq0, uq1, ↓reduceIte, Nat.reduceEqDiff, uq2, uq3]
            simp -dsimp -implicitDefEqProofs only [go_sem, ↓reduceIte, lt_len hi, hg, d1, d2]
            repeat' (with_reducible refine And.intro ?_ ?_)
            all_goals (first | omega | (refine ⟨?_, ?_⟩ <;> omega) | (exact rfl) | (simp; done) | trace_state)
        · have hz := hno (by rw [isDig, hd, d1]; rfl)
          rw [if_neg (by rw [show (s.all fun c => decide (48 ≤ c.toNat) && decide (c.toNat ≤ 57)) = s.all isDig from rfl, hz]; decide)]
          simp -dsimp -implicitDefEqProofs only [pick_nil, pick_cons, look_nil, look_cons, dropB_nil, dropB_cons, inD_nil, inD_cons, inE_nil, inE_cons, or_t_l, or_f_l, Nat.reduceBEq, Nat.reduceDiv, Nat.reduceAdd, beq_self_eq_true, uq0, uq1, ↓reduceIte, Nat.reduceEqDiff, uq2, uq3]
          simp -dsimp -implicitDefEqProofs only [go_sem, ↓reduceIte, lt_len hi, hg, d1]
          repeat' (with_reducible refine And.intro ?_ ?_)
          all_goals (first | omega | (refine ⟨?_, ?_⟩ <;> omega) | (exact rfl) | (simp; done) | trace_state)
      · rw [List.take_length] at hI
        have hv1 := hv s.length (Nat.le_refl _) (by rw [List.take_length]; exact hI)
        rw [List.take_length] at hv1
        rw [if_pos (show (s.all fun c => decide (48 ≤ c.toNat) && decide (c.toNat ≤ 57)) = true from hI), List.take_length]
        have hcd := c_l01Dec (dval 0 s) (by omega)
        generalize dval 0 s = z at *
        simp -dsimp -implicitDefEqProofs only [pick_nil, pick_cons, look_nil, look_cons, dropB_nil, dropB_cons, inD_nil, inD_cons, inE_nil, inE_cons, or_t_l, or_f_l, Nat.reduceBEq, Nat.reduceDiv, Nat.reduceAdd, beq_self_eq_true, uq0, uq1, ↓reduceIte, Nat.reduceEqDiff, uq2, uq3]
        simp -dsimp -implicitDefEqProofs only [go_sem, ↓reduceIte, nlt_len]
        refine sCallT_one hcd ?_
        simp -dsimp -implicitDefEqProofs only [go_sem, ↓reduceIte]
        all_goals (first | omega | (refine ⟨?_, ?_⟩ <;> omega) | (exact rfl) | (simp; done) | trace_state)
    · have g1 := of_decide_eq_true h13
      rw [if_pos (by omega)]
      simp -dsimp -implicitDefEqProofs only [go_sem, ↓reduceIte, h1, h13]
      repeat' (with_reducible refine And.intro ?_ ?_)
      all_goals (first | omega | (refine ⟨?_, ?_⟩ <;> omega) | (exact rfl) | (simp; done) | trace_state)
  · have g1 := of_decide_eq_true h1
    rw [if_pos (by omega)]
    simp -dsimp -implicitDefEqProofs only [go_sem, ↓reduceIte, h1]
    repeat' (with_reducible refine And.intro ?_ ?_)
    all_goals (first | omega | (refine ⟨?_, ?_⟩ <;> omega) | (exact rfl) | (simp; done) | trace_state)
end Go.Vc


set_option linter.unusedVariables false
set_option linter.unusedSimpArgs false
set_option linter.unnecessarySimpa false
namespace Go.Vc
open Go.Proofs Go.Lib
set_option maxRecDepth 100000
def ordWord (x : ItM) : List UInt8 := (if x.key then [107] else [99]) ++ (itoa x.index ++ ([120] ++ itoa x.copies))
def ordText (os : List ItM) : List UInt8 := Lib.join (os.map ordWord) [32]
theorem join_snoc (xs : List (List UInt8)) (y : List UInt8) (c : UInt8) : Lib.join (xs ++ [y]) [c] = if xs = [] then y else Lib.join xs [c] ++ ([c] ++ y) := by
  cases xs with
  | nil => simp [join_one]
  | cons x r =>
    rw [if_neg (by simp), uq2, join_cons, join_cons]
    simp [joinTail]
theorem ordText_nil : ordText [] = [] := rfl
theorem ordText_snoc (os : List ItM) (x : ItM) : ordText (os ++ [x]) = if os = [] then ordWord x else ordText os ++ ([32] ++ ordWord x) := by
  rw [ordText, List.map_append, List.map_singleton, join_snoc]
  cases os <;> simp [ordText]
theorem ordText_pos {os : List ItM} {i : Nat} (hi : i < os.length) (h0 : 0 < i) : ordText (os.take (i + 1)) = ordText (os.take i) ++ ([32] ++ ordWord os[i]) := by
  rw [List.take_succ_eq_append_getElem hi, ordText_snoc, if_neg]
  intro e
  have := congrArg List.length e
  rw [List.length_take, List.length_nil] at this; omega
theorem ordText_one {os : List ItM} (hi : 0 < os.length) : ordText (os.take 1) = ordWord os[0] := by
  have := ordText_snoc (os.take 0) os[0]
  rw [List.take_zero] at this
  rw [List.take_succ_eq_append_getElem hi, List.take_zero, this, if_pos rfl]
def It64 (x : ItM) : Prop := I64 x.index ∧ I64 x.copies
theorem ordWord_len {x : ItM} (h : It64 x) : (ordWord x).length ≤ 44 := by
  have h1 := itoa_len h.1
  have h2 := itoa_len h.2
  unfold ordWord
  split <;> simp <;> omega
theorem join_len32 (xs : List (List UInt8)) (n : Nat) (h : ∀ x ∈ xs, x.length ≤ n) : (Lib.join xs [32]).length ≤ xs.length * (n + 1) := by
  cases xs with
  | nil => simp [join_nil]
  | cons x r =>
    rw [join_length]
    have hl : ∀ (l : List (List UInt8)), (∀ x ∈ l, x.length ≤ n) → lens l ≤ l.length * n := by
      intro l
      induction l with
      | nil => intro _; simp [lens]
      | cons y t ih =>
        intro h
        have h1 := h y (List.mem_cons_self ..)
        have h2 := ih fun z hz => h z (List.mem_cons_of_mem _ hz)
        simp only [lens, List.map_cons, List.sum_cons, List.length_cons] at h2 ⊢
        rw [Nat.add_mul]; omega
    have := hl (x :: r) h
    simp only [List.length_cons, List.length_nil] at this ⊢
    rw [Nat.mul_succ]
    generalize (r.length + 1) * n = p at *
    omega
theorem ordText_len {os : List ItM} (h : ∀ x ∈ os, It64 x) : (ordText os).length ≤ os.length * 45 := by
  have := join_len32 (os.map ordWord) 44 (by
    intro y hy
    obtain ⟨x, hx, rfl⟩ := List.mem_map.1 hy
    exact ordWord_len (h x hx))
  simpa [ordText] using this
set_option maxHeartbeats 1000000 in
theorem c_orderText (os : List ItM) (h : os.length ≤ 1048576) (hx : ∀ x ∈ os, It64 x) : Fn Tryz.prog 43 [eIts os] true (· = eS (ordText os)) := by
  refine Fn.of_vcN 32 [.tmp 2] Tryz.func43 rfl rfl rfl rfl rfl (of_decide_eq_true rfl) ?_
  simp -dsimp -implicitDefEqProofs only [go_sem, ↓reduceIte]
  refine Later.up [8, 9] [5, 20, 25, 27, 28] [7] os.length (fun _ => True) (fun i => [(3, .ref 7 0 0 i), (10, eI i)]) (fun i => [(7, .row 0 ⟨1, false⟩ true (((os.take i).map ordWord).map eS))]) trivial ?_ rfl (fun i hi _ => ?_) (fun _ => ?_)
  · simp -dsimp -implicitDefEqProofs only [go_sem, ↓reduceIte]
  · have gi := get_some hi
    have h64 := hx os[i] (List.getElem_mem hi)
    have htk : os.take (i + 1) = os.take i ++ [os[i]] := List.take_succ_eq_append_getElem hi
    rw [htk]
    generalize os[i] = x at *
    have l1 := itoa_len h64.1
    have l2 := itoa_len h64.2
    have c1 := c_text h64.1
    have c2 := c_text h64.2
    rcases hk : x.key with _ | _
    · have hw : ordWord x = [99] ++ (itoa x.index ++ ([120] ++ itoa x.copies)) := by rw [ordWord, hk]; rfl
      rw [List.map_append, List.map_singleton, hw]
      clear hw
      simp -dsimp -implicitDefEqProofs only [pick_nil, pick_cons, look_nil, look_cons, dropB_nil, dropB_cons, inD_nil, inD_cons, inE_nil, inE_cons, or_t_l, or_f_l, Nat.reduceBEq, Nat.reduceDiv, Nat.reduceAdd, beq_self_eq_true, uq0, uq1, ↓reduceIte, Nat.reduceEqDiff, uq2, uq3]
      simp -dsimp -implicitDefEqProofs only [go_sem, ↓reduceIte, lt_len hi, gi, hk]
      ((repeat' (with_reducible refine And.intro ?_ ?_)); all_goals try (first | omega | (refine ⟨?_, ?_⟩ <;> omega) | (exact rfl)))
      try simp -dsimp -implicitDefEqProofs only [go_sem, ↓reduceIte, hk]
      refine Later.draw mixed rfl ?_
      simp -dsimp -implicitDefEqProofs only [go_sem, ↓reduceIte, hk]
      ((repeat' (with_reducible refine And.intro ?_ ?_)); all_goals try (first | omega | (refine ⟨?_, ?_⟩ <;> omega) | (exact rfl)))
      refine sCallX_one c1 ?_
      simp -dsimp -implicitDefEqProofs only [go_sem, ↓reduceIte]
      ((repeat' (with_reducible refine And.intro ?_ ?_)); all_goals try (first | omega | (refine ⟨?_, ?_⟩ <;> omega) | (exact rfl)))
      refine sCallX_one c2 ?_
      simp -dsimp -implicitDefEqProofs only [go_sem, ↓reduceIte]
      repeat' (with_reducible refine And.intro ?_ ?_)
      all_goals (first | omega | (refine ⟨?_, ?_⟩ <;> omega) | (exact rfl) | (simp; done) | trace_state)
    · have hw : ordWord x = [107] ++ (itoa x.index ++ ([120] ++ itoa x.copies)) := by rw [ordWord, hk]; rfl
      rw [List.map_append, List.map_singleton, hw]
      clear hw
      simp -dsimp -implicitDefEqProofs only [pick_nil, pick_cons, look_nil, look_cons, dropB_nil, dropB_cons, inD_nil, inD_cons, inE_nil, inE_cons, or_t_l, or_f_l, Nat.reduceBEq, Nat.reduceDiv, Nat.reduceAdd, beq_self_eq_true, uq0, uq1, ↓reduceIte, Nat.reduceEqDiff, uq2, uq3]
      simp -dsimp -implicitDefEqProofs only [go_sem, ↓reduceIte, lt_len hi, gi, hk]
      ((repeat' (with_reducible refine And.intro ?_ ?_)); all_goals try (first | omega | (refine ⟨?_, ?_⟩ <;> omega) | (exact rfl)))
      try simp -dsimp -implicitDefEqProofs only [go_sem, ↓reduceIte, hk]
      refine Later.draw mixed rfl ?_
      simp -dsimp -implicitDefEqProofs only [go_sem, ↓reduceIte, hk]
      ((repeat' (with_reducible refine And.intro ?_ ?_)); all_goals try (first | omega | (refine ⟨?_, ?_⟩ <;> omega) | (exact rfl)))
      refine sCallX_one c1 ?_
      simp -dsimp -implicitDefEqProofs only [go_sem, ↓reduceIte]
      ((repeat' (with_reducible refine And.intro ?_ ?_)); all_goals try (first | omega | (refine ⟨?_, ?_⟩ <;> omega) | (exact rfl)))
      refine sCallX_one c2 ?_
      simp -dsimp -implicitDefEqProofs only [go_sem, ↓reduceIte]
      repeat' (with_reducible refine And.intro ?_ ?_)
      all_goals (first | omega | (refine ⟨?_, ?_⟩ <;> omega) | (exact rfl) | (simp; done) | trace_state)
  · have hj := ordText_len hx
    simp -dsimp -implicitDefEqProofs only [pick_nil, pick_cons, look_nil, look_cons, dropB_nil, dropB_cons, inD_nil, inD_cons, inE_nil, inE_cons, or_t_l, or_f_l, Nat.reduceBEq, Nat.reduceDiv, Nat.reduceAdd, beq_self_eq_true, uq0, uq1, ↓reduceIte, Nat.reduceEqDiff, uq2, uq3]
    simp -dsimp -implicitDefEqProofs only [go_sem, ↓reduceIte, nlt_len, List.take_length]
    have e : List.take os.length (List.map eS (List.map ordWord os)) = List.map eS (List.map ordWord os) := uq4 (by simp)
    simp only [e]
    refine sCallT_one (c_Join (os.map ordWord) [32] (by simp; omega) (by unfold ordText at hj; omega)) ?_
    simp -dsimp -implicitDefEqProofs only [go_sem, ↓reduceIte]
    all_goals exact rfl
def ItOk (x : ItM) : Prop := (0 ≤ x.index ∧ x.index ≤ 1000000) ∧ 0 ≤ x.copies ∧ x.copies ≤ 1000000
theorem ItOk.i64 {x : ItM} (h : ItOk x) : It64 x := by unfold ItOk at h; unfold It64 I64; omega
theorem isOrd_ok {t : List (List Int)} {os : List ItM} (h : isOrd t os = true) (ht : t.length ≤ 1048576 / 2) (h0 : (t.getD 0 []).length ≤ 1048576 / 2) : ∀ x ∈ os, ItOk x := by
  intro x hx
  simp only [isOrd, Bool.and_eq_true, List.all_eq_true] at h
  have := h.1 _ hx
  simp only [itOk, isIn, Bool.and_eq_true, decide_eq_true_eq] at this
  unfold ItOk
  split at this <;> omega
set_option maxHeartbeats 1000000 in
theorem c_l29Text (os : List ItM) (h : os.length ≤ 1048576) (hx : ∀ x ∈ os, ItOk x) : Fn Tryz.prog 45 [eIts os] true (· = eS (ordText os)) := by
  refine Fn.of_vcN 40 [.tmp 2] Tryz.func45 rfl rfl rfl rfl rfl (of_decide_eq_true rfl) ?_
  have hlen : ∀ i, (ordText (os.take i)).length ≤ 47185920 := fun i => by
    have h1 := ordText_len (os := os.take i) (fun x hm => (hx x (List.mem_of_mem_take hm)).i64)
    have h2 : (os.take i).length ≤ 1048576 := by simp; omega
    have h3 : (os.take i).length * 45 ≤ 1048576 * 45 := Nat.mul_le_mul_right _ h2
    omega
  simp -dsimp -implicitDefEqProofs only [go_sem, ↓reduceIte]
  refine Later.up [0] [8, 29, 37] [] os.length (fun _ => True) (fun i => [(3, eS (ordText (os.take i))), (4, eI i)]) (fun _ => []) trivial ?_ rfl (fun i hi _ => ?_) (fun _ => ?_)
  · simp -dsimp -implicitDefEqProofs only [go_sem, ↓reduceIte]
    exact rfl
  · have gi := get_some hi
    have h64 := hx os[i] (List.getElem_mem hi)
    have hl := hlen i
    have hwl := ordWord_len h64.i64
    have l1 := itoa_len h64.i64.1
    have l2 := itoa_len h64.i64.2
    have c1 := c_l01DecI os[i].index (by unfold ItOk at h64; omega)
    have c2 := c_l01DecI os[i].copies (by unfold ItOk at h64; omega)
    have hwn : ∀ b, os[i].key = b → ordWord os[i] = (if b then [107] else [99]) ++ (itoa os[i].index ++ ([120] ++ itoa os[i].copies)) := fun b e => by rw [ordWord, e]
    rcases Nat.eq_zero_or_pos i with rfl | h0
    · have hT := ordText_one hi
      rw [hT]
      clear hT hl hlen
      generalize os[0] = x at *
      rcases hk : x.key with _ | _
      · have hw := hwn false hk
        clear hwn
        rw [hw]
        clear hw
        simp -dsimp -implicitDefEqProofs only [pick_nil, pick_cons, look_nil, look_cons, dropB_nil, dropB_cons, inD_nil, inD_cons, inE_nil, inE_cons, or_t_l, or_f_l, Nat.reduceBEq, Nat.reduceDiv, Nat.reduceAdd, beq_self_eq_true, uq0, uq1, ↓reduceIte, Nat.reduceEqDiff, uq2, uq3]
        have d0 : decide ((0 : Int) > 0) = false := rfl
        have dl : decide ((0 : Int) < (os.length : Int)) = true := decide_eq_true (by omega)
        simp -dsimp -implicitDefEqProofs only [go_sem, ↓reduceIte, dl, gi, hk, d0, ordText_nil]
        ((repeat' (with_reducible refine And.intro ?_ ?_)); all_goals try (first | omega | (refine ⟨?_, ?_⟩ <;> omega) | (exact rfl)))
        refine Later.draw mixed rfl ?_
        simp -dsimp -implicitDefEqProofs only [go_sem, ↓reduceIte, gi, ordText_nil]
        ((repeat' (with_reducible refine And.intro ?_ ?_)); all_goals try (first | omega | (refine ⟨?_, ?_⟩ <;> omega) | (exact rfl)))
        refine sCallX_one c1 ?_
        simp -dsimp -implicitDefEqProofs only [go_sem, ↓reduceIte, gi, ordText_nil]
        ((repeat' (with_reducible refine And.intro ?_ ?_)); all_goals try (first | omega | (refine ⟨?_, ?_⟩ <;> omega) | (exact rfl)))
        refine sCallX_one c2 ?_
        simp -dsimp -implicitDefEqProofs only [go_sem, ↓reduceIte]
        repeat' (with_reducible refine And.intro ?_ ?_)
        all_goals first | omega | (refine ⟨?_, ?_⟩ <;> omega) | (exact rfl) | (simp [ordText_nil]; done) | trace_state
      · have hw := hwn true hk
        clear hwn
        rw [hw]
        clear hw
        simp -dsimp -implicitDefEqProofs only [pick_nil, pick_cons, look_nil, look_cons, dropB_nil, dropB_cons, inD_nil, inD_cons, inE_nil, inE_cons, or_t_l, or_f_l, Nat.reduceBEq, Nat.reduceDiv, Nat.reduceAdd, beq_self_eq_true, uq0, uq1, ↓reduceIte, Nat.reduceEqDiff, uq2, uq3]
        have d0 : decide ((0 : Int) > 0) = false := rfl
        have dl : decide ((0 : Int) < (os.length : Int)) = true := decide_eq_true (by omega)
        simp -dsimp -implicitDefEqProofs only [go_sem, ↓reduceIte, dl, gi, hk, d0, ordText_nil]
        ((repeat' (with_reducible refine And.intro ?_ ?_)); all_goals try (first | omega | (refine ⟨?_, ?_⟩ <;> omega) | (exact rfl)))
        refine Later.draw mixed rfl ?_
        simp -dsimp -implicitDefEqProofs only [go_sem, ↓reduceIte, gi, ordText_nil]
        ((repeat' (with_reducible refine And.intro ?_ ?_)); all_goals try (first | omega | (refine ⟨?_, ?_⟩ <;> omega) | (exact rfl)))
        refine sCallX_one c1 ?_
        simp -dsimp -implicitDefEqProofs only [go_sem, ↓reduceIte, gi, ordText_nil]
        ((repeat' (with_reducible refine And.intro ?_ ?_)); all_goals try (first | omega | (refine ⟨?_, ?_⟩ <;> omega) | (exact rfl)))
        refine sCallX_one c2 ?_
        simp -dsimp -implicitDefEqProofs only [go_sem, ↓reduceIte]
        repeat' (with_reducible refine And.intro ?_ ?_)
        all_goals first | omega | (refine ⟨?_, ?_⟩ <;> omega) | (exact rfl) | (simp [ordText_nil]; done) | trace_state
    · have hT := ordText_pos hi h0
      have d0 : decide ((i : Int) > 0) = true := decide_eq_true (by omega)
      rw [hT]
      clear hT hlen
      generalize ordText (os.take i) = q at *
      generalize os[i] = x at *
      rcases hk : x.key with _ | _
      · have hw := hwn false hk
        clear hwn
        rw [hw]
        clear hw
        simp -dsimp -implicitDefEqProofs only [pick_nil, pick_cons, look_nil, look_cons, dropB_nil, dropB_cons, inD_nil, inD_cons, inE_nil, inE_cons, or_t_l, or_f_l, Nat.reduceBEq, Nat.reduceDiv, Nat.reduceAdd, beq_self_eq_true, uq0, uq1, ↓reduceIte, Nat.reduceEqDiff, uq2, uq3]
        simp -dsimp -implicitDefEqProofs only [go_sem, ↓reduceIte, lt_len hi, gi, hk, d0]
        repeat' (with_reducible refine And.intro ?_ ?_)
        all_goals try (first | omega | (refine ⟨?_, ?_⟩ <;> omega))
        refine Later.draw mixed rfl ?_
        simp -dsimp -implicitDefEqProofs only [go_sem, ↓reduceIte, gi]
        ((repeat' (with_reducible refine And.intro ?_ ?_)); all_goals try (first | omega | (refine ⟨?_, ?_⟩ <;> omega) | (exact rfl)))
        refine sCallX_one c1 ?_
        simp -dsimp -implicitDefEqProofs only [go_sem, ↓reduceIte, gi]
        ((repeat' (with_reducible refine And.intro ?_ ?_)); all_goals try (first | omega | (refine ⟨?_, ?_⟩ <;> omega) | (exact rfl)))
        refine sCallX_one c2 ?_
        simp -dsimp -implicitDefEqProofs only [go_sem, ↓reduceIte]
        repeat' (with_reducible refine And.intro ?_ ?_)
        all_goals first | omega | (refine ⟨?_, ?_⟩ <;> omega) | (exact rfl) | (simp; done) | trace_state
      · have hw := hwn true hk
        clear hwn
        rw [hw]
        clear hw
        simp -dsimp -implicitDefEqProofs only [pick_nil, pick_cons, look_nil, look_cons, dropB_nil, dropB_cons, inD_nil, inD_cons, inE_nil, inE_cons, or_t_l, or_f_l, Nat.reduceBEq, Nat.reduceDiv, Nat.reduceAdd, beq_self_eq_true, uq0, uq1, ↓reduceIte, Nat.reduceEqDiff, uq2, uq3]
        simp -dsimp -implicitDefEqProofs only [go_sem, ↓reduceIte, lt_len hi, gi, hk, d0]
        repeat' (with_reducible refine And.intro ?_ ?_)
        all_goals try (first | omega | (refine ⟨?_, ?_⟩ <;> omega))
        refine Later.draw mixed rfl ?_
        simp -dsimp -implicitDefEqProofs only [go_sem, ↓reduceIte, gi]
        ((repeat' (with_reducible refine And.intro ?_ ?_)); all_goals try (first | omega | (refine ⟨?_, ?_⟩ <;> omega) | (exact rfl)))
        refine sCallX_one c1 ?_
        simp -dsimp -implicitDefEqProofs only [go_sem, ↓reduceIte, gi]
        ((repeat' (with_reducible refine And.intro ?_ ?_)); all_goals try (first | omega | (refine ⟨?_, ?_⟩ <;> omega) | (exact rfl)))
        refine sCallX_one c2 ?_
        simp -dsimp -implicitDefEqProofs only [go_sem, ↓reduceIte]
        repeat' (with_reducible refine And.intro ?_ ?_)
        all_goals first | omega | (refine ⟨?_, ?_⟩ <;> omega) | (exact rfl) | (simp; done) | trace_state
  · simp -dsimp -implicitDefEqProofs only [pick_nil, pick_cons, look_nil, look_cons, dropB_nil, dropB_cons, inD_nil, inD_cons, inE_nil, inE_cons, or_t_l, or_f_l, Nat.reduceBEq, Nat.reduceDiv, Nat.reduceAdd, beq_self_eq_true, uq0, uq1, ↓reduceIte, Nat.reduceEqDiff, uq2, uq3]
    simp -dsimp -implicitDefEqProofs only [go_sem, ↓reduceIte, nlt_len, List.take_length]
end Go.Vc


set_option linter.unusedVariables false
set_option linter.unusedSimpArgs false
set_option linter.unnecessarySimpa false
namespace Go.Vc
open Go.Proofs
set_option maxRecDepth 100000
def dmgW (i : Int) : List UInt8 := ([[48], [35], [46], [47], [32], [97], [45], [10]] : List (List UInt8)).getD i.toNat []
theorem dmgW_len (i : Int) : (dmgW i).length ≤ 1 := by
  unfold dmgW
  rcases Nat.lt_or_ge i.toNat 8 with h | h
  · match i.toNat, h with
    | 0, _ => decide
    | 1, _ => decide
    | 2, _ => decide
    | 3, _ => decide
    | 4, _ => decide
    | 5, _ => decide
    | 6, _ => decide
    | 7, _ => decide
  · rw [List.getD_eq_getElem?_getD, List.getElem?_eq_none (by simpa using h)]; simp
def dmg (bs : List UInt8) (t : List UInt8) (a : Int × Src) (b : Int × Src) : List UInt8 × Src :=
  if b.1 = 0 then (t.take a.1.toNat, b.2)
  else if b.1 = 1 then (t.take a.1.toNat ++ dmgW (nx bs 8 b.2).1 ++ t.drop a.1.toNat, (nx bs 8 b.2).2)
  else if b.1 = 2 ∧ a.1 < t.length then (t.take a.1.toNat ++ t.drop (a.1.toNat + 1), b.2)
  else (t, b.2)
def damage (bs : List UInt8) (t : List UInt8) (s : Src) : List UInt8 × Src := dmg bs t (nx bs ((t.length : Int) + 1) s) (nx bs 8 (nx bs ((t.length : Int) + 1) s).2)
theorem nx_in (bs t : List UInt8) {s : Src} (h : SrcOk s) : 0 ≤ (nx bs ((t.length : Int) + 1) s).1 ∧ (nx bs ((t.length : Int) + 1) s).1 ≤ t.length := by
  have h1 := nx_ok bs ((t.length : Int) + 1) h
  refine ⟨h1.1, ?_⟩
  by_cases hz : (t.length : Int) + 1 ≤ 1
  · rw [h1.2.1 hz]; omega
  · have := h1.2.2.1 (by omega); omega
theorem damage_ok (bs t : List UInt8) {s : Src} (h : SrcOk s) : SrcOk (damage bs t s).2 ∧ (damage bs t s).1.length ≤ t.length + 1 := by
  have h1 := nx_in bs t h
  have o1 := (nx_ok bs ((t.length : Int) + 1) h).2.2.2
  unfold damage
  generalize nx bs ((t.length : Int) + 1) s = a at *
  have o2 := (nx_ok bs 8 o1).2.2.2
  generalize nx bs 8 a.2 = b at *
  have o3 := (nx_ok bs 8 o2).2.2.2
  have hw := dmgW_len (nx bs 8 b.2).1
  unfold dmg
  split
  · exact ⟨o2, by simp; omega⟩
  · split
    · exact ⟨o3, by simp; omega⟩
    · split
      · exact ⟨o2, by simp; omega⟩
      · exact ⟨o2, by dsimp only; omega⟩
set_option maxHeartbeats 8000000 in
theorem c_l01Damage (v : Nat) (bs t : List UInt8) (s : Src) (h : SrcOk s) (hl : bs.length ≤ 4096) (ht : t.length ≤ 1000000) :
    FnM Tryz.prog 49 [srcB v bs s] [.ptr 1000000000 v 0 0, eS t] (fun x io => x = eS (damage bs t s).1 ∧ io = [srcB v bs (damage bs t s).2]) := by
  refine FnM.of_vc 48 [.tmp 4] Tryz.func49 rfl rfl rfl rfl rfl (of_decide_eq_true rfl) ?_
  obtain ⟨res, hr⟩ : ∃ res, damage bs t s = res := ⟨_, rfl⟩
  rw [hr]
  unfold damage dmg at hr
  have h1 := nx_ok bs ((t.length : Int) + 1) h
  have c1 := fun v => c_l01Next v bs ((t.length : Int) + 1) s h hl
  have hk : 0 ≤ (nx bs ((t.length : Int) + 1) s).1 ∧ (nx bs ((t.length : Int) + 1) s).1 ≤ t.length := by
    refine ⟨h1.1, ?_⟩
    by_cases hz : (t.length : Int) + 1 ≤ 1
    · rw [h1.2.1 hz]; omega
    · have := h1.2.2.1 (by omega); omega
  have o1 := h1.2.2.2
  clear h1
  generalize nx bs ((t.length : Int) + 1) s = a at *
  have h2 := nx_ok bs 8 o1
  have c2 := fun v => c_l01Next v bs 8 a.2 o1 hl
  generalize nx bs 8 a.2 = b at *
  have o2 := h2.2.2.2
  clear h2
  obtain ⟨n, hn⟩ : ∃ n : Nat, a.1 = n := ⟨a.1.toNat, by omega⟩
  rw [hn] at hk c1 hr
  rw [Int.toNat_natCast] at hr
  have hk1 : n ≤ t.length := by omega
  simp -dsimp -implicitDefEqProofs only [go_sem, ↓reduceIte]
  repeat' (with_reducible refine And.intro ?_ ?_)
  all_goals try (first | omega | (refine ⟨?_, ?_⟩ <;> omega) | (exact rfl) | (simp; done))
  (refine sCallT_io [1000000000] ?_; simp -dsimp -implicitDefEqProofs only [go_sem, ↓reduceIte]; refine sCallM_one (c1 _) ?_; simp -dsimp -implicitDefEqProofs only [go_sem, ↓reduceIte])
  (refine sCallT_io [1000000000] ?_; simp -dsimp -implicitDefEqProofs only [go_sem, ↓reduceIte]; refine sCallM_one (c2 _) ?_; simp -dsimp -implicitDefEqProofs only [go_sem, ↓reduceIte])
  rcases hb0 : (b.1 == 0) with _ | _
  · rw [if_neg (by simpa using hb0)] at hr
    simp -dsimp -implicitDefEqProofs only [go_sem, ↓reduceIte, hb0]
    rcases hb1 : (b.1 == 1) with _ | _
    · rw [if_neg (by simpa using hb1)] at hr
      simp -dsimp -implicitDefEqProofs only [go_sem, ↓reduceIte, hb1]
      rcases hb2 : (b.1 == 2) with _ | _
      · rw [if_neg (by have : b.1 ≠ 2 := by simpa using hb2
                       exact fun h => this h.1)] at hr
        subst hr
        simp -dsimp -implicitDefEqProofs only [go_sem, ↓reduceIte, hb2]
        all_goals try exact ⟨rfl, rfl⟩
      · rcases hlt : decide ((n : Int) < (t.length : Int)) with _ | _
        · rw [if_neg (fun h => of_decide_eq_false hlt h.2)] at hr
          subst hr
          simp -dsimp -implicitDefEqProofs only [go_sem, ↓reduceIte, hb2, hlt]
          all_goals try exact ⟨rfl, rfl⟩
        · have hlt2 := of_decide_eq_true hlt
          rw [if_pos ⟨by simpa using hb2, hlt2⟩] at hr
          subst hr
          have e1 : ((n : Int) + 1).toNat = n + 1 := by omega
          simp -dsimp -implicitDefEqProofs only [go_sem, ↓reduceIte, hb2, hlt]
          refine Later.draw mixed rfl ?_
          simp -dsimp -implicitDefEqProofs only [go_sem, ↓reduceIte, e1]
          repeat' (with_reducible refine And.intro ?_ ?_)
          all_goals try first | (first | omega | (refine ⟨?_, ?_⟩ <;> omega) | (exact rfl) | (simp; done)) | (simp; omega)
          all_goals try first | exact ⟨by first | rfl | simp, rfl⟩ | (exact rfl) | (simp; done)
    · rw [if_pos (by simpa using hb1)] at hr
      simp -dsimp -implicitDefEqProofs only [go_sem, ↓reduceIte, hb1]
      have h3 := nx_ok bs 8 o2
      have c3 := fun v => c_l01Next v bs 8 b.2 o2 hl
      generalize nx bs 8 b.2 = d at *
      have o3 := h3.2.2.2
      have d1 := h3.1
      have d2 := h3.2.2.1 (by omega)
      clear h3
      refine Later.draw mixed rfl ?_
      simp -dsimp -implicitDefEqProofs only [go_sem, ↓reduceIte]
      repeat' (with_reducible refine And.intro ?_ ?_)
      all_goals try (first | omega | (refine ⟨?_, ?_⟩ <;> omega) | (exact rfl) | (simp; done))
      (refine sCallX_io [1000000000] rfl ?_; simp -dsimp -implicitDefEqProofs only [go_sem, ↓reduceIte]; refine sCallMX_one (c3 _) ?_; simp -dsimp -implicitDefEqProofs only [go_sem, ↓reduceIte])
      repeat' (with_reducible refine And.intro ?_ ?_)
      all_goals try (first | omega | (refine ⟨?_, ?_⟩ <;> omega) | (exact rfl) | (simp; done))
      subst hr
      have hwl := dmgW_len d.1
      have hw : ∀ i, i < 8 → ([AV.val (.string ⟨#[48]⟩), AV.val (.string ⟨#[35]⟩), AV.val (.string ⟨#[46]⟩), AV.val (.string ⟨#[47]⟩), AV.val (.string ⟨#[32]⟩), AV.val (.string ⟨#[97]⟩), AV.val (.string ⟨#[45]⟩), AV.val (.string ⟨#[10]⟩)] : List AV)[i]? = some (eS (([[48], [35], [46], [47], [32], [97], [45], [10]] : List (List UInt8)).getD i [])) := fun i hi => by
        match i, hi with
        | 0, _ => rfl
        | 1, _ => rfl
        | 2, _ => rfl
        | 3, _ => rfl
        | 4, _ => rfl
        | 5, _ => rfl
        | 6, _ => rfl
        | 7, _ => rfl
      have w2 := hw d.1.toNat (by omega)
      clear hw
      change _ = some (eS (dmgW d.1)) at w2
      generalize dmgW d.1 = w at *
      simp -dsimp -implicitDefEqProofs only [go_sem, ↓reduceIte, w2]
      repeat' (with_reducible refine And.intro ?_ ?_)
      all_goals try first | (first | omega | (refine ⟨?_, ?_⟩ <;> omega) | (exact rfl) | (simp; done)) | (simp; omega)
      all_goals try first | exact ⟨by first | rfl | simp, rfl⟩ | (exact rfl) | (simp; done)
  · rw [if_pos (by simpa using hb0)] at hr
    subst hr
    simp -dsimp -implicitDefEqProofs only [go_sem, ↓reduceIte, hb0]
    repeat' (with_reducible refine And.intro ?_ ?_)
    all_goals try first | (first | omega | (refine ⟨?_, ?_⟩ <;> omega) | (exact rfl) | (simp; done)) | (simp; omega)
end Go.Vc


