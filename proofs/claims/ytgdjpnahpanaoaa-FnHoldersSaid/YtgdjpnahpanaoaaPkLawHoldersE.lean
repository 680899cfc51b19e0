import Derived.Test.YtgdjpnahpanaoaaPkLawHoldersD
/-
  Contracts: draws of buildings, plans and access tables.
-/
set_option linter.unusedVariables false
set_option linter.unusedSimpArgs false
set_option linter.unnecessarySimpa false
namespace Go.Vc
open Go.Proofs
set_option maxRecDepth 100000
set_option maxHeartbeats 4000000
abbrev eBs (xs : List Bool) : AV := .arr ⟨1, false⟩ (xs.map eB)
abbrev eBd (ps : List Int) (ds : List Bool) : AV := .agg [eIs ps, eBs ds]
abbrev ePl (p : PlanM) : AV := .agg [eIs p.ps, eBs p.ds, eIss p.rights]
theorem tk {α β : Type} (f : α → β) (l : List α) (n : Nat) (h : l.length ≤ n) : (l.map f).take n = l.map f := List.take_of_length_le (by simpa using h)
theorem mapS {α β : Type} (f : α → β) (l : List α) (x : α) : (l ++ [x]).map f = l.map f ++ [f x] := by simp
theorem c_l09Valid (v : Nat) (bs : List UInt8) (s : Src) (h : SrcOk s) (hl : bs.length ≤ 4096) :
    FnMR Try.prog 63 [srcB v bs s] [.ptr 1000000000 v 0 0] (fun x io => x = eBd (bldD bs s).ps (bldD bs s).ds ∧ io = [srcB v bs (bldD bs s).src]) := by
  refine FnMR.of_vc 52 [.cell 2 76] Try.func63 rfl rfl rfl rfl rfl (of_decide_eq_true rfl) ?_
  have hn := bldN_in bs h
  have h9 := (nx_ok bs 9 h).2.2.2
  have q9 := fun v => c_l01Next v bs 9 s h hl
  have hok := bldTo_ok (bs := bs) (n := bldN bs s) h9
  have hNd : 2 + (nx bs 9 s).1 = bldN bs s := rfl
  unfold bldD
  generalize bldN bs s = n at *
  generalize nx bs 9 s = a at *
  simp -dsimp -implicitDefEqProofs only [go_sem, ↓reduceIte, Nat.reduceEqDiff, Nat.reduceLT, Nat.reduceAdd, Nat.reduceMul, Nat.reduceLeDiff, Nat.le_refl, Int.natCast_zero, Int.toNat_natCast, Int.reduceToNat]
  (refine sCallT_io [1000000000] ?_; simp -dsimp -implicitDefEqProofs only [go_sem, ↓reduceIte, Nat.reduceEqDiff, Nat.reduceLT, Nat.reduceAdd, Nat.reduceMul, Nat.reduceLeDiff, Nat.le_refl, Int.natCast_zero, Int.toNat_natCast, Int.reduceToNat]; refine sCallM_one (q9 _) ?_; simp -dsimp -implicitDefEqProofs only [go_sem, ↓reduceIte, Nat.reduceEqDiff, Nat.reduceLT, Nat.reduceAdd, Nat.reduceMul, Nat.reduceLeDiff, Nat.le_refl, Int.natCast_zero, Int.toNat_natCast, Int.reduceToNat])
  ((repeat' (with_reducible refine And.intro ?_ ?_)); all_goals try (first | omega | (refine ⟨?_, ?_⟩ <;> omega) | (exact rfl)))
  rw [hNd]
  refine Later.up [0, 2, 3] [24, 25, 28, 29, 36, 41, 42, 47, 48] [12, 13, 14, 1000000000] (n - 1).toNat (fun _ => True) (fun j => [(7, eI (1 + (j : Int))), (4, .ref 12 0 0 (j + 1)), (5, .ref 13 0 0 (j + 1)), (6, .ref 14 0 0 (bldTo bs n a.2 j).gs.length)])
    (fun j => [(12, .row 0 ⟨1, false⟩ true ((bldTo bs n a.2 j).ps.map eI)), (13, .row 0 ⟨1, false⟩ true ((bldTo bs n a.2 j).ds.map eB)), (14, .row 0 ⟨1, false⟩ true ((bldTo bs n a.2 j).gs.map eI)), (1000000000, srcB v bs (bldTo bs n a.2 j).src)]) trivial ?_ rfl (fun j hj _ => ?_) (fun _ => ?_)
  · simp -dsimp -implicitDefEqProofs only [go_sem, ↓reduceIte, Nat.reduceEqDiff, Nat.reduceLT, Nat.reduceAdd, Nat.reduceMul, Nat.reduceLeDiff, Nat.le_refl, Int.natCast_zero, Int.toNat_natCast, Int.reduceToNat, bldTo_zero]
    ((repeat' (with_reducible refine And.intro ?_ ?_)); all_goals try (first | omega | (refine ⟨?_, ?_⟩ <;> omega) | (exact rfl)))
    all_goals first | (simp; done) | trace_state
  · obtain ⟨b1, b2, b3, b4, b5, b6⟩ := hok j
    have hlt : decide ((1 : Int) + (j : Int) < n) = true := decide_eq_true (by omega)
    have hlast : ((1 : Int) + (j : Int) == n - 1) = lastB n (j + 1) := by
      unfold lastB
      rw [show (1 : Int) + (j : Int) = ((j + 1 : Nat) : Int) by omega]
    have e1 : (1 : Int) + (j : Int) = ((j + 1 : Nat) : Int) := by omega
    rw [bldTo_succ]
    unfold bldStep doorB
    generalize bldTo bs n a.2 j = z at *
    obtain ⟨ps, ds, gs, src⟩ := z
    simp only at b1 b2 b3 b4 b5 b6 ⊢
    have a2 := nx_lt bs b4.1 b1
    have a3 := nx_ok bs gs.length b1
    have qg := fun v => c_l01Next v bs gs.length src b1 hl
    have gg := get_some a2.1
    have hgd : gs.getD (nx bs gs.length src).1.toNat 0 = gs[(nx bs gs.length src).1.toNat]'a2.1 := by simp [List.getD_eq_getElem?_getD, a2.1]
    rw [hgd]
    generalize gs[(nx bs gs.length src).1.toNat]'a2.1 = g at *
    generalize nx bs gs.length src = c at *
    have q3 := fun v => c_l01Next v bs 3 c.2 a3.2.2.2 hl
    generalize nx bs 3 c.2 = d at *
    have tp := tk eI ps (j + 1) (by omega)
    have td := tk eB ds (j + 1) (by omega)
    have tg := tk eI gs gs.length (Nat.le_refl _)
    have ep := mapS eI ps g
    have eg := mapS eI gs ((j + 1 : Nat) : Int)
    simp -dsimp -implicitDefEqProofs only [pick_nil, pick_cons, look_nil, look_cons, dropB_nil, dropB_cons, inD_nil, inD_cons, inE_nil, inE_cons, or_t_l, or_f_l, Nat.reduceBEq, Nat.reduceDiv, Nat.reduceAdd, beq_self_eq_true, Bool.false_eq_true, Bool.or_false, ↓reduceIte, Nat.reduceEqDiff, List.cons_append, List.nil_append]
    simp -dsimp -implicitDefEqProofs only [go_sem, ↓reduceIte, Nat.reduceEqDiff, Nat.reduceLT, Nat.reduceAdd, Nat.reduceMul, Nat.reduceLeDiff, Nat.le_refl, Int.natCast_zero, Int.toNat_natCast, Int.reduceToNat, hlt]
    (refine sCallT_io [1000000000] ?_; simp -dsimp -implicitDefEqProofs only [go_sem, ↓reduceIte, Nat.reduceEqDiff, Nat.reduceLT, Nat.reduceAdd, Nat.reduceMul, Nat.reduceLeDiff, Nat.le_refl, Int.natCast_zero, Int.toNat_natCast, Int.reduceToNat]; refine sCallM_one (qg _) ?_; simp -dsimp -implicitDefEqProofs only [go_sem, ↓reduceIte, Nat.reduceEqDiff, Nat.reduceLT, Nat.reduceAdd, Nat.reduceMul, Nat.reduceLeDiff, Nat.le_refl, Int.natCast_zero, Int.toNat_natCast, Int.reduceToNat])
    ((repeat' (with_reducible refine And.intro ?_ ?_)); all_goals try (first | omega | (refine ⟨?_, ?_⟩ <;> omega) | (exact rfl)))
    simp -dsimp -implicitDefEqProofs only [go_sem, ↓reduceIte, Nat.reduceEqDiff, Nat.reduceLT, Nat.reduceAdd, Nat.reduceMul, Nat.reduceLeDiff, Nat.le_refl, Int.natCast_zero, Int.toNat_natCast, Int.reduceToNat, gg]
    ((repeat' (with_reducible refine And.intro ?_ ?_)); all_goals try (first | omega | (refine ⟨?_, ?_⟩ <;> omega) | (exact rfl)))
    cases hL : lastB n (j + 1) with
    | true =>
      rw [hL] at hlast
      simp -dsimp -implicitDefEqProofs only [go_sem, ↓reduceIte, Nat.reduceEqDiff, Nat.reduceLT, Nat.reduceAdd, Nat.reduceMul, Nat.reduceLeDiff, Nat.le_refl, Int.natCast_zero, Int.toNat_natCast, Int.reduceToNat, hlast]
      ((repeat' (with_reducible refine And.intro ?_ ?_)); all_goals try (first | omega | (refine ⟨?_, ?_⟩ <;> omega) | (exact rfl)))
      all_goals first | (simp [*]; done) | (simp [*]; omega) | trace_state
    | false =>
      rw [hL] at hlast
      simp -dsimp -implicitDefEqProofs only [go_sem, ↓reduceIte, Nat.reduceEqDiff, Nat.reduceLT, Nat.reduceAdd, Nat.reduceMul, Nat.reduceLeDiff, Nat.le_refl, Int.natCast_zero, Int.toNat_natCast, Int.reduceToNat, hlast]
      (refine sCallT_io [1000000000] ?_; simp -dsimp -implicitDefEqProofs only [go_sem, ↓reduceIte, Nat.reduceEqDiff, Nat.reduceLT, Nat.reduceAdd, Nat.reduceMul, Nat.reduceLeDiff, Nat.le_refl, Int.natCast_zero, Int.toNat_natCast, Int.reduceToNat]; refine sCallM_one (q3 _) ?_; simp -dsimp -implicitDefEqProofs only [go_sem, ↓reduceIte, Nat.reduceEqDiff, Nat.reduceLT, Nat.reduceAdd, Nat.reduceMul, Nat.reduceLeDiff, Nat.le_refl, Int.natCast_zero, Int.toNat_natCast, Int.reduceToNat])
      cases hD : decide (d.1 > 0) with
      | true =>
        simp -dsimp -implicitDefEqProofs only [go_sem, ↓reduceIte, Nat.reduceEqDiff, Nat.reduceLT, Nat.reduceAdd, Nat.reduceMul, Nat.reduceLeDiff, Nat.le_refl, Int.natCast_zero, Int.toNat_natCast, Int.reduceToNat, hlast, hD]
        ((repeat' (with_reducible refine And.intro ?_ ?_)); all_goals try (first | omega | (refine ⟨?_, ?_⟩ <;> omega) | (exact rfl)))
        all_goals first | (simp [*]; done) | (simp [*]; omega) | trace_state
      | false =>
        simp -dsimp -implicitDefEqProofs only [go_sem, ↓reduceIte, Nat.reduceEqDiff, Nat.reduceLT, Nat.reduceAdd, Nat.reduceMul, Nat.reduceLeDiff, Nat.le_refl, Int.natCast_zero, Int.toNat_natCast, Int.reduceToNat, hlast, hD]
        ((repeat' (with_reducible refine And.intro ?_ ?_)); all_goals try (first | omega | (refine ⟨?_, ?_⟩ <;> omega) | (exact rfl)))
        all_goals first | (simp [*]; done) | (simp [*]; omega) | trace_state
  · obtain ⟨b1, b2, b3, b4, b5, b6⟩ := hok (n - 1).toNat
    have hlt : decide ((1 : Int) + ((n - 1).toNat : Int) < n) = false := decide_eq_false (by omega)
    generalize bldTo bs n a.2 (n - 1).toNat = z at *
    obtain ⟨ps, ds, gs, src⟩ := z
    simp only at b1 b2 b3 b4 b5 b6 ⊢
    have tp := tk eI ps ((n - 1).toNat + 1) (by omega)
    have td := tk eB ds ((n - 1).toNat + 1) (by omega)
    simp -dsimp -implicitDefEqProofs only [pick_nil, pick_cons, look_nil, look_cons, dropB_nil, dropB_cons, inD_nil, inD_cons, inE_nil, inE_cons, or_t_l, or_f_l, Nat.reduceBEq, Nat.reduceDiv, Nat.reduceAdd, beq_self_eq_true, Bool.false_eq_true, Bool.or_false, ↓reduceIte, Nat.reduceEqDiff, List.cons_append, List.nil_append]
    simp -dsimp -implicitDefEqProofs only [go_sem, ↓reduceIte, Nat.reduceEqDiff, Nat.reduceLT, Nat.reduceAdd, Nat.reduceMul, Nat.reduceLeDiff, Nat.le_refl, Int.natCast_zero, Int.toNat_natCast, Int.reduceToNat, hlt]
    ((repeat' (with_reducible refine And.intro ?_ ?_)); all_goals try (first | omega | (refine ⟨?_, ?_⟩ <;> omega) | (exact rfl)))
    all_goals first | (rw [tp, td]; done) | trace_state
theorem c_l09Under (ps : List Int) (ds : List Bool) (node other : Int) (hp : okP ps) (hl : ps.length ≤ 1000) (hn : node < ps.length) (hn0 : 0 ≤ node) : Fn Try.prog 76 [eBd ps ds, eI node, eI other] true (· = eB (undF ps ps.length node other)) := by
  refine Fn.of_vcN 17 [.tmp 6] Try.func76 rfl rfl rfl rfl rfl (of_decide_eq_true rfl) ?_
  generalize hR : undF ps ps.length node other = R
  simp -dsimp -implicitDefEqProofs only [go_sem, ↓reduceIte, Nat.reduceEqDiff, Nat.reduceLT, Nat.reduceAdd, Nat.reduceMul, Nat.reduceLeDiff, Nat.le_refl, Int.natCast_zero, Int.toNat_natCast, Int.reduceToNat]
  refine Later.lp [2, 3] [] [] (fun x : Nat × Int => -1 ≤ x.2 ∧ x.2 < x.1 ∧ x.1 ≤ ps.length ∧ undF ps x.1 x.2 other = R) (fun x => [(1, eI x.2)]) (fun _ => []) (fun x => x.1) (ps.length, node) ⟨by omega, by omega, Nat.le_refl _, hR⟩ ?_ rfl (fun x hx => ?_)
  · simp -dsimp -implicitDefEqProofs only [go_sem, ↓reduceIte, Nat.reduceEqDiff, Nat.reduceLT, Nat.reduceAdd, Nat.reduceMul, Nat.reduceLeDiff, Nat.le_refl, Int.natCast_zero, Int.toNat_natCast, Int.reduceToNat]
  · obtain ⟨k, nd⟩ := x
    obtain ⟨h1, h2, h3, h4⟩ := hx
    simp only at h1 h2 h3 h4 ⊢
    simp -dsimp -implicitDefEqProofs only [pick_nil, pick_cons, look_nil, look_cons, dropB_nil, dropB_cons, inD_nil, inD_cons, inE_nil, inE_cons, or_t_l, or_f_l, Nat.reduceBEq, Nat.reduceDiv, Nat.reduceAdd, beq_self_eq_true, Bool.false_eq_true, Bool.or_false, ↓reduceIte, Nat.reduceEqDiff, List.cons_append, List.nil_append]
    by_cases h0 : nd < 0
    · have hge : decide (nd ≥ 0) = false := decide_eq_false (by omega)
      have hRf : R = false := by
        rw [← h4]
        cases k with
        | zero => rfl
        | succ k => simp only [undF]; rw [if_pos h0]
      rw [hRf]
      simp -dsimp -implicitDefEqProofs only [go_sem, ↓reduceIte, Nat.reduceEqDiff, Nat.reduceLT, Nat.reduceAdd, Nat.reduceMul, Nat.reduceLeDiff, Nat.le_refl, Int.natCast_zero, Int.toNat_natCast, Int.reduceToNat, hge]
    · have hge : decide (nd ≥ 0) = true := decide_eq_true (by omega)
      obtain ⟨k, rfl⟩ : ∃ k', k = k' + 1 := ⟨k - 1, by omega⟩
      simp only [undF] at h4
      rw [if_neg h0] at h4
      have hlt : nd.toNat < ps.length := by omega
      have gp := get_some hlt
      have hok := hp nd.toNat hlt
      have e : ps.getD nd.toNat 0 = ps[nd.toNat] := by simp [List.getD_eq_getElem?_getD, hlt]
      rw [e] at h4 hok
      generalize ps[nd.toNat] = p at *
      cases ho : (nd == other) with
      | true =>
        rw [ho] at h4
        simp only [if_true] at h4
        rw [← h4]
        simp -dsimp -implicitDefEqProofs only [go_sem, ↓reduceIte, Nat.reduceEqDiff, Nat.reduceLT, Nat.reduceAdd, Nat.reduceMul, Nat.reduceLeDiff, Nat.le_refl, Int.natCast_zero, Int.toNat_natCast, Int.reduceToNat, hge, ho]
      | false =>
        rw [ho] at h4
        simp only [Bool.false_eq_true, if_false] at h4
        simp -dsimp -implicitDefEqProofs only [go_sem, ↓reduceIte, Nat.reduceEqDiff, Nat.reduceLT, Nat.reduceAdd, Nat.reduceMul, Nat.reduceLeDiff, Nat.le_refl, Int.natCast_zero, Int.toNat_natCast, Int.reduceToNat, hge, ho, gp]
        refine ⟨⟨by omega, by omega⟩, (k, p), ⟨by omega, by omega, by omega, h4⟩, by simp, ?_⟩
        simp -dsimp -implicitDefEqProofs only [go_sem, ↓reduceIte, Nat.reduceEqDiff, Nat.reduceLT, Nat.reduceAdd, Nat.reduceMul, Nat.reduceLeDiff, Nat.le_refl, Int.natCast_zero, Int.toNat_natCast, Int.reduceToNat]
theorem c_l09Doors (ps : List Int) (ds : List Bool) (node : Int) (hp : okP ps) (hl : ps.length ≤ 1000) (hd : ds.length = ps.length) : Fn Try.prog 61 [eBd ps ds, eI node] true (· = eIs (doorsU ps ds node)) := by
  refine Fn.of_vcN 31 [.tmp 4] Try.func61 rfl rfl rfl rfl rfl (of_decide_eq_true rfl) ?_
  unfold doorsU
  simp -dsimp -implicitDefEqProofs only [go_sem, ↓reduceIte, Nat.reduceEqDiff, Nat.reduceLT, Nat.reduceAdd, Nat.reduceMul, Nat.reduceLeDiff, Nat.le_refl, Int.natCast_zero, Int.toNat_natCast, Int.reduceToNat]
  refine Later.up [1, 2] [11, 24, 28, 29] [7] ds.length (fun _ => True) (fun i => [(6, eI i), (5, .ref 7 0 0 (flt (fun i => ds.getD i false && undF ps ps.length (i : Int) node) i).length)]) (fun i => [(7, .row 0 ⟨1, false⟩ true ((flt (fun i => ds.getD i false && undF ps ps.length (i : Int) node) i).map eI))]) trivial ?_ rfl (fun i hi _ => ?_) (fun _ => ?_)
  · simp -dsimp -implicitDefEqProofs only [go_sem, ↓reduceIte, Nat.reduceEqDiff, Nat.reduceLT, Nat.reduceAdd, Nat.reduceMul, Nat.reduceLeDiff, Nat.le_refl, Int.natCast_zero, Int.toNat_natCast, Int.reduceToNat, flt_zero]
  · have gi := get_some hi
    have li := lt_len hi
    have hq := c_l09Under ps ds (i : Int) node hp hl (by omega) (by omega)
    have hfl := flt_len (fun i => ds.getD i false && undF ps ps.length (i : Int) node) i
    have hgd : ds.getD i false = ds[i] := by simp [List.getD_eq_getElem?_getD, hi]
    rw [flt_succ]
    simp only [hgd]
    generalize flt (fun i => ds.getD i false && undF ps ps.length (i : Int) node) i = F at *
    generalize ds[i] = d at *
    generalize undF ps ps.length (i : Int) node = ub at *
    have tF := tk eI F F.length (Nat.le_refl _)
    simp -dsimp -implicitDefEqProofs only [pick_nil, pick_cons, look_nil, look_cons, dropB_nil, dropB_cons, inD_nil, inD_cons, inE_nil, inE_cons, or_t_l, or_f_l, Nat.reduceBEq, Nat.reduceDiv, Nat.reduceAdd, beq_self_eq_true, Bool.false_eq_true, Bool.or_false, ↓reduceIte, Nat.reduceEqDiff, List.cons_append, List.nil_append]
    cases d with
    | false =>
      simp -dsimp -implicitDefEqProofs only [go_sem, ↓reduceIte, Nat.reduceEqDiff, Nat.reduceLT, Nat.reduceAdd, Nat.reduceMul, Nat.reduceLeDiff, Nat.le_refl, Int.natCast_zero, Int.toNat_natCast, Int.reduceToNat, li, gi]
      ((repeat' (with_reducible refine And.intro ?_ ?_)); all_goals try (first | omega | (refine ⟨?_, ?_⟩ <;> omega) | (exact rfl)))
      all_goals first | (simp [*]; done) | trace_state
    | true =>
      simp -dsimp -implicitDefEqProofs only [go_sem, ↓reduceIte, Nat.reduceEqDiff, Nat.reduceLT, Nat.reduceAdd, Nat.reduceMul, Nat.reduceLeDiff, Nat.le_refl, Int.natCast_zero, Int.toNat_natCast, Int.reduceToNat, li, gi]
      ((repeat' (with_reducible refine And.intro ?_ ?_)); all_goals try (first | omega | (refine ⟨?_, ?_⟩ <;> omega) | (exact rfl)))
      refine sCallT_one hq ?_
      cases ub with
      | false =>
        simp -dsimp -implicitDefEqProofs only [go_sem, ↓reduceIte, Nat.reduceEqDiff, Nat.reduceLT, Nat.reduceAdd, Nat.reduceMul, Nat.reduceLeDiff, Nat.le_refl, Int.natCast_zero, Int.toNat_natCast, Int.reduceToNat]
        ((repeat' (with_reducible refine And.intro ?_ ?_)); all_goals try (first | omega | (refine ⟨?_, ?_⟩ <;> omega) | (exact rfl)))
        all_goals first | (simp [*]; done) | trace_state
      | true =>
        simp -dsimp -implicitDefEqProofs only [go_sem, ↓reduceIte, Nat.reduceEqDiff, Nat.reduceLT, Nat.reduceAdd, Nat.reduceMul, Nat.reduceLeDiff, Nat.le_refl, Int.natCast_zero, Int.toNat_natCast, Int.reduceToNat]
        ((repeat' (with_reducible refine And.intro ?_ ?_)); all_goals try (first | omega | (refine ⟨?_, ?_⟩ <;> omega) | (exact rfl)))
        all_goals first | (simp [*]; done) | trace_state
  · have hfl := flt_len (fun i => ds.getD i false && undF ps ps.length (i : Int) node) ds.length
    generalize flt (fun i => ds.getD i false && undF ps ps.length (i : Int) node) ds.length = F at *
    have tF := tk eI F F.length (Nat.le_refl _)
    simp -dsimp -implicitDefEqProofs only [pick_nil, pick_cons, look_nil, look_cons, dropB_nil, dropB_cons, inD_nil, inD_cons, inE_nil, inE_cons, or_t_l, or_f_l, Nat.reduceBEq, Nat.reduceDiv, Nat.reduceAdd, beq_self_eq_true, Bool.false_eq_true, Bool.or_false, ↓reduceIte, Nat.reduceEqDiff, List.cons_append, List.nil_append]
    simp -dsimp -implicitDefEqProofs only [go_sem, ↓reduceIte, Nat.reduceEqDiff, Nat.reduceLT, Nat.reduceAdd, Nat.reduceMul, Nat.reduceLeDiff, Nat.le_refl, Int.natCast_zero, Int.toNat_natCast, Int.reduceToNat, nlt_len]
    ((repeat' (with_reducible refine And.intro ?_ ?_)); all_goals try (first | omega | (refine ⟨?_, ?_⟩ <;> omega) | (exact rfl)))
    all_goals first | (rw [tF]; done) | (simp; done) | trace_state
theorem c_l10May (ps : List Int) (ds : List Bool) (nodes : List Int) (door : Int) (hp : okP ps) (hl : ps.length ≤ 1000) (h0 : 0 ≤ door) (h1 : door < ps.length) (hn : nodes.length ≤ 1000) : Fn Try.prog 62 [eBd ps ds, eIs nodes, eI door] true (· = eB (mayE ps nodes door)) := by
  refine Fn.of_vcN 21 [.tmp 6] Try.func62 rfl rfl rfl rfl rfl (of_decide_eq_true rfl) ?_
  simp -dsimp -implicitDefEqProofs only [go_sem, ↓reduceIte, Nat.reduceEqDiff, Nat.reduceLT, Nat.reduceAdd, Nat.reduceMul, Nat.reduceLeDiff, Nat.le_refl, Int.natCast_zero, Int.toNat_natCast, Int.reduceToNat]
  refine Later.up [1, 2, 3] [10, 20] [] nodes.length (fun i => ((nodes.take i).any fun x => undF ps ps.length door x) = false) (fun i => [(7, eI i)]) (fun _ => []) (by simp) ?_ rfl (fun i hi hI => ?_) (fun hI => ?_)
  · simp -dsimp -implicitDefEqProofs only [go_sem, ↓reduceIte, Nat.reduceEqDiff, Nat.reduceLT, Nat.reduceAdd, Nat.reduceMul, Nat.reduceLeDiff, Nat.le_refl, Int.natCast_zero, Int.toNat_natCast, Int.reduceToNat]
  · have gi := get_some hi
    have li := lt_len hi
    have hq := c_l09Under ps ds door nodes[i] hp hl h1 h0
    have yes : undF ps ps.length door nodes[i] = true → mayE ps nodes door = true := fun h => List.any_eq_true.2 ⟨_, List.getElem_mem hi, h⟩
    have no : undF ps ps.length door nodes[i] = false → ((nodes.take (i + 1)).any fun x => undF ps ps.length door x) = false := fun h => by rw [List.take_succ_eq_append_getElem hi, List.any_append, hI]; simp [h]
    generalize nodes[i] = x at *
    generalize undF ps ps.length door x = ub at *
    simp -dsimp -implicitDefEqProofs only [pick_nil, pick_cons, look_nil, look_cons, dropB_nil, dropB_cons, inD_nil, inD_cons, inE_nil, inE_cons, or_t_l, or_f_l, Nat.reduceBEq, Nat.reduceDiv, Nat.reduceAdd, beq_self_eq_true, Bool.false_eq_true, Bool.or_false, ↓reduceIte, Nat.reduceEqDiff, List.cons_append, List.nil_append]
    simp -dsimp -implicitDefEqProofs only [go_sem, ↓reduceIte, Nat.reduceEqDiff, Nat.reduceLT, Nat.reduceAdd, Nat.reduceMul, Nat.reduceLeDiff, Nat.le_refl, Int.natCast_zero, Int.toNat_natCast, Int.reduceToNat, li]
    refine Later.draw mixed rfl ?_
    simp -dsimp -implicitDefEqProofs only [go_sem, ↓reduceIte, Nat.reduceEqDiff, Nat.reduceLT, Nat.reduceAdd, Nat.reduceMul, Nat.reduceLeDiff, Nat.le_refl, Int.natCast_zero, Int.toNat_natCast, Int.reduceToNat, gi]
    ((repeat' (with_reducible refine And.intro ?_ ?_)); all_goals try (first | omega | (refine ⟨?_, ?_⟩ <;> omega) | (exact rfl)))
    refine sCallX_one hq ?_
    cases ub with
    | false =>
      simp -dsimp -implicitDefEqProofs only [go_sem, ↓reduceIte, Nat.reduceEqDiff, Nat.reduceLT, Nat.reduceAdd, Nat.reduceMul, Nat.reduceLeDiff, Nat.le_refl, Int.natCast_zero, Int.toNat_natCast, Int.reduceToNat]
      exact ⟨by exact rfl, ⟨by omega, by omega⟩, no rfl, rfl⟩
    | true =>
      rw [yes rfl]
      simp -dsimp -implicitDefEqProofs only [go_sem, ↓reduceIte, Nat.reduceEqDiff, Nat.reduceLT, Nat.reduceAdd, Nat.reduceMul, Nat.reduceLeDiff, Nat.le_refl, Int.natCast_zero, Int.toNat_natCast, Int.reduceToNat]
      ((repeat' (with_reducible refine And.intro ?_ ?_)); all_goals try (first | omega | (refine ⟨?_, ?_⟩ <;> omega) | (exact rfl)))
  · rw [List.take_length] at hI
    rw [show mayE ps nodes door = false from hI]
    simp -dsimp -implicitDefEqProofs only [pick_nil, pick_cons, look_nil, look_cons, dropB_nil, dropB_cons, inD_nil, inD_cons, inE_nil, inE_cons, or_t_l, or_f_l, Nat.reduceBEq, Nat.reduceDiv, Nat.reduceAdd, beq_self_eq_true, Bool.false_eq_true, Bool.or_false, ↓reduceIte, Nat.reduceEqDiff, List.cons_append, List.nil_append]
    simp -dsimp -implicitDefEqProofs only [go_sem, ↓reduceIte, Nat.reduceEqDiff, Nat.reduceLT, Nat.reduceAdd, Nat.reduceMul, Nat.reduceLeDiff, Nat.le_refl, Int.natCast_zero, Int.toNat_natCast, Int.reduceToNat, nlt_len]
theorem c_l10DrawNodes (v : Nat) (bs : List UInt8) (s : Src) (ps : List Int) (ds : List Bool) (h : SrcOk s) (hl : bs.length ≤ 4096) (hp : ps.length ≤ 1000) :
    FnMR Try.prog 64 [srcB v bs s] [.ptr 1000000000 v 0 0, eBd ps ds] (fun x io => x = eIs (nodesD bs ps.length s).1 ∧ io = [srcB v bs (nodesD bs ps.length s).2]) := by
  refine FnMR.of_vc 34 [.tmp 4] Try.func64 rfl rfl rfl rfl rfl (of_decide_eq_true rfl) ?_
  have hok := fun i => nodesTo_ok (bs := bs) h i
  simp -dsimp -implicitDefEqProofs only [go_sem, ↓reduceIte, Nat.reduceEqDiff, Nat.reduceLT, Nat.reduceAdd, Nat.reduceMul, Nat.reduceLeDiff, Nat.le_refl, Int.natCast_zero, Int.toNat_natCast, Int.reduceToNat]
  refine Later.up [0, 3] [11, 16, 20, 21] [7, 1000000000] ps.length (fun _ => True) (fun i => [(6, eI i), (5, .ref 7 0 0 (nodesTo bs s i).1.length)]) (fun i => [(7, .row 0 ⟨1, false⟩ true ((nodesTo bs s i).1.map eI)), (1000000000, srcB v bs (nodesTo bs s i).2)]) trivial ?_ rfl (fun i hi _ => ?_) (fun _ => ?_)
  · simp -dsimp -implicitDefEqProofs only [go_sem, ↓reduceIte, Nat.reduceEqDiff, Nat.reduceLT, Nat.reduceAdd, Nat.reduceMul, Nat.reduceLeDiff, Nat.le_refl, Int.natCast_zero, Int.toNat_natCast, Int.reduceToNat, nodesTo]
    ((repeat' (with_reducible refine And.intro ?_ ?_)); all_goals try (first | omega | (refine ⟨?_, ?_⟩ <;> omega) | (exact rfl)))
  · obtain ⟨o1, o2⟩ := hok i
    have li := lt_len hi
    rw [nodesTo_succ]
    have q4 := fun v => c_l01Next v bs 4 (nodesTo bs s i).2 o1 hl
    generalize nodesTo bs s i = z at *
    generalize nx bs 4 z.2 = a at *
    have tz := tk eI z.1 z.1.length (Nat.le_refl _)
    simp -dsimp -implicitDefEqProofs only [pick_nil, pick_cons, look_nil, look_cons, dropB_nil, dropB_cons, inD_nil, inD_cons, inE_nil, inE_cons, or_t_l, or_f_l, Nat.reduceBEq, Nat.reduceDiv, Nat.reduceAdd, beq_self_eq_true, Bool.false_eq_true, Bool.or_false, ↓reduceIte, Nat.reduceEqDiff, List.cons_append, List.nil_append]
    simp -dsimp -implicitDefEqProofs only [go_sem, ↓reduceIte, Nat.reduceEqDiff, Nat.reduceLT, Nat.reduceAdd, Nat.reduceMul, Nat.reduceLeDiff, Nat.le_refl, Int.natCast_zero, Int.toNat_natCast, Int.reduceToNat, li]
    (refine sCallT_io [1000000000] ?_; simp -dsimp -implicitDefEqProofs only [go_sem, ↓reduceIte, Nat.reduceEqDiff, Nat.reduceLT, Nat.reduceAdd, Nat.reduceMul, Nat.reduceLeDiff, Nat.le_refl, Int.natCast_zero, Int.toNat_natCast, Int.reduceToNat]; refine sCallM_one (q4 _) ?_; simp -dsimp -implicitDefEqProofs only [go_sem, ↓reduceIte, Nat.reduceEqDiff, Nat.reduceLT, Nat.reduceAdd, Nat.reduceMul, Nat.reduceLeDiff, Nat.le_refl, Int.natCast_zero, Int.toNat_natCast, Int.reduceToNat])
    cases hz : (a.1 == 0) with
    | true =>
      simp -dsimp -implicitDefEqProofs only [go_sem, ↓reduceIte, Nat.reduceEqDiff, Nat.reduceLT, Nat.reduceAdd, Nat.reduceMul, Nat.reduceLeDiff, Nat.le_refl, Int.natCast_zero, Int.toNat_natCast, Int.reduceToNat, hz]
      ((repeat' (with_reducible refine And.intro ?_ ?_)); all_goals try (first | omega | (refine ⟨?_, ?_⟩ <;> omega) | (exact rfl)))
      all_goals first | (simp [*]; done) | trace_state
    | false =>
      simp -dsimp -implicitDefEqProofs only [go_sem, ↓reduceIte, Nat.reduceEqDiff, Nat.reduceLT, Nat.reduceAdd, Nat.reduceMul, Nat.reduceLeDiff, Nat.le_refl, Int.natCast_zero, Int.toNat_natCast, Int.reduceToNat, hz]
      ((repeat' (with_reducible refine And.intro ?_ ?_)); all_goals try (first | omega | (refine ⟨?_, ?_⟩ <;> omega) | (exact rfl)))
      all_goals first | (simp [*]; done) | trace_state
  · obtain ⟨o1, o2⟩ := hok ps.length
    unfold nodesD
    generalize nodesTo bs s ps.length = z at *
    have qn := fun v => c_l01Next v bs ps.length z.2 o1 hl
    have tz := tk eI z.1 z.1.length (Nat.le_refl _)
    cases hz : ((z.1.length : Int) == 0) with
    | true =>
      have hz0 : z.1 = [] := by
        have := beq_iff_eq.1 hz
        exact List.eq_nil_of_length_eq_zero (by omega)
      obtain ⟨z1, z2⟩ := z
      simp only at hz0
      subst hz0
      simp only [if_true]
      simp -dsimp -implicitDefEqProofs only [pick_nil, pick_cons, look_nil, look_cons, dropB_nil, dropB_cons, inD_nil, inD_cons, inE_nil, inE_cons, or_t_l, or_f_l, Nat.reduceBEq, Nat.reduceDiv, Nat.reduceAdd, beq_self_eq_true, Bool.false_eq_true, Bool.or_false, ↓reduceIte, Nat.reduceEqDiff, List.cons_append, List.nil_append]
      simp -dsimp -implicitDefEqProofs only [go_sem, ↓reduceIte, Nat.reduceEqDiff, Nat.reduceLT, Nat.reduceAdd, Nat.reduceMul, Nat.reduceLeDiff, Nat.le_refl, Int.natCast_zero, Int.toNat_natCast, Int.reduceToNat, nlt_len, hz]
      (refine sCallT_io [1000000000] ?_; simp -dsimp -implicitDefEqProofs only [go_sem, ↓reduceIte, Nat.reduceEqDiff, Nat.reduceLT, Nat.reduceAdd, Nat.reduceMul, Nat.reduceLeDiff, Nat.le_refl, Int.natCast_zero, Int.toNat_natCast, Int.reduceToNat]; refine sCallM_one (qn _) ?_; simp -dsimp -implicitDefEqProofs only [go_sem, ↓reduceIte, Nat.reduceEqDiff, Nat.reduceLT, Nat.reduceAdd, Nat.reduceMul, Nat.reduceLeDiff, Nat.le_refl, Int.natCast_zero, Int.toNat_natCast, Int.reduceToNat])
      ((repeat' (with_reducible refine And.intro ?_ ?_)); all_goals try (first | omega | (refine ⟨?_, ?_⟩ <;> omega) | (exact rfl)))
      all_goals first | (simp [*]; done) | trace_state
    | false =>
      simp only [Bool.false_eq_true, if_false]
      simp -dsimp -implicitDefEqProofs only [pick_nil, pick_cons, look_nil, look_cons, dropB_nil, dropB_cons, inD_nil, inD_cons, inE_nil, inE_cons, or_t_l, or_f_l, Nat.reduceBEq, Nat.reduceDiv, Nat.reduceAdd, beq_self_eq_true, Bool.false_eq_true, Bool.or_false, ↓reduceIte, Nat.reduceEqDiff, List.cons_append, List.nil_append]
      simp -dsimp -implicitDefEqProofs only [go_sem, ↓reduceIte, Nat.reduceEqDiff, Nat.reduceLT, Nat.reduceAdd, Nat.reduceMul, Nat.reduceLeDiff, Nat.le_refl, Int.natCast_zero, Int.toNat_natCast, Int.reduceToNat, nlt_len, hz]
      ((repeat' (with_reducible refine And.intro ?_ ?_)); all_goals try (first | omega | (refine ⟨?_, ?_⟩ <;> omega) | (exact rfl)))
      all_goals first | (rw [tz]; done) | (simp [*]; done) | trace_state
theorem c_l10Valid (v : Nat) (bs : List UInt8) (s : Src) (h : SrcOk s) (hl : bs.length ≤ 4096) :
    FnMR Try.prog 53 [srcB v bs s] [.ptr 1000000000 v 0 0] (fun x io => x = ePl (planD bs s).1 ∧ io = [srcB v bs (planD bs s).2]) := by
  refine FnMR.of_vc 25 [.cell 2 78] Try.func53 rfl rfl rfl rfl rfl (of_decide_eq_true rfl) ?_
  have qb := fun v => c_l09Valid v bs s h hl
  have hn := bldN_in bs h
  obtain ⟨⟨b1, b2, b3, b4, b5, b6⟩, _⟩ := bldD_ok bs h
  unfold planD
  generalize bldD bs s = B at *
  obtain ⟨ps, ds, gs, src⟩ := B
  simp only at b1 b2 b3 qb ⊢
  have q4 := fun v => c_l01Next v bs 4 src b1 hl
  have a := nx_ok bs 4 b1
  have a3 := a.2.2.1 (by omega)
  have hok := fun i => rightsTo_ok (bs := bs) a.2.2.2 ps.length i
  generalize nx bs 4 src = c at *
  simp -dsimp -implicitDefEqProofs only [go_sem, ↓reduceIte, Nat.reduceEqDiff, Nat.reduceLT, Nat.reduceAdd, Nat.reduceMul, Nat.reduceLeDiff, Nat.le_refl, Int.natCast_zero, Int.toNat_natCast, Int.reduceToNat]
  refine sCallT_ioR [1000000000] ?_
  simp -dsimp -implicitDefEqProofs only [go_sem, ↓reduceIte, Nat.reduceEqDiff, Nat.reduceLT, Nat.reduceAdd, Nat.reduceMul, Nat.reduceLeDiff, Nat.le_refl, Int.natCast_zero, Int.toNat_natCast, Int.reduceToNat]
  refine sCallMR_any (qb _) ?_
  rintro _ _ ⟨rfl, rfl⟩
  simp -dsimp -implicitDefEqProofs only [go_sem, ↓reduceIte, Nat.reduceEqDiff, Nat.reduceLT, Nat.reduceAdd, Nat.reduceMul, Nat.reduceLeDiff, Nat.le_refl, Int.natCast_zero, Int.toNat_natCast, Int.reduceToNat]
  (refine sCallT_io [1000000000] ?_; simp -dsimp -implicitDefEqProofs only [go_sem, ↓reduceIte, Nat.reduceEqDiff, Nat.reduceLT, Nat.reduceAdd, Nat.reduceMul, Nat.reduceLeDiff, Nat.le_refl, Int.natCast_zero, Int.toNat_natCast, Int.reduceToNat]; refine sCallM_one (q4 _) ?_; simp -dsimp -implicitDefEqProofs only [go_sem, ↓reduceIte, Nat.reduceEqDiff, Nat.reduceLT, Nat.reduceAdd, Nat.reduceMul, Nat.reduceLeDiff, Nat.le_refl, Int.natCast_zero, Int.toNat_natCast, Int.reduceToNat])
  ((repeat' (with_reducible refine And.intro ?_ ?_)); all_goals try (first | omega | (refine ⟨?_, ?_⟩ <;> omega) | (exact rfl)))
  refine Later.up [0, 2, 3] [19, 20, 21] [8, 1000000000] (1 + c.1).toNat (fun _ => True) (fun i => [(5, eI (1 + c.1 - (i : Int))), (4, .ref 8 0 0 i)]) (fun i => [(8, .row 0 ⟨1, false⟩ (i == 0) ((rightsTo bs ps.length c.2 i).1.map eIs)), (1000000000, srcB v bs (rightsTo bs ps.length c.2 i).2)]) trivial ?_ rfl (fun i hi _ => ?_) (fun _ => ?_)
  · simp -dsimp -implicitDefEqProofs only [go_sem, ↓reduceIte, Nat.reduceEqDiff, Nat.reduceLT, Nat.reduceAdd, Nat.reduceMul, Nat.reduceLeDiff, Nat.le_refl, Int.natCast_zero, Int.toNat_natCast, Int.reduceToNat, rightsTo]
    ((repeat' (with_reducible refine And.intro ?_ ?_)); all_goals try (first | omega | (refine ⟨?_, ?_⟩ <;> omega) | (exact rfl)))
    all_goals first | (simp; done) | trace_state
  · obtain ⟨o1, o2, o3⟩ := hok i
    have hgt : decide (1 + c.1 - (i : Int) > 0) = true := decide_eq_true (by omega)
    rw [rightsTo_succ]
    generalize rightsTo bs ps.length c.2 i = R at *
    have qd := fun v => c_l10DrawNodes v bs R.2 ps ds o1 hl (by omega)
    generalize nodesD bs ps.length R.2 = N at *
    have tR := tk eIs R.1 i (by omega)
    have e0 : (i + 1 == 0) = false := rfl
    have e2 := mapS eIs R.1 N.1
    simp -dsimp -implicitDefEqProofs only [pick_nil, pick_cons, look_nil, look_cons, dropB_nil, dropB_cons, inD_nil, inD_cons, inE_nil, inE_cons, or_t_l, or_f_l, Nat.reduceBEq, Nat.reduceDiv, Nat.reduceAdd, beq_self_eq_true, Bool.false_eq_true, Bool.or_false, ↓reduceIte, Nat.reduceEqDiff, List.cons_append, List.nil_append]
    simp -dsimp -implicitDefEqProofs only [go_sem, ↓reduceIte, Nat.reduceEqDiff, Nat.reduceLT, Nat.reduceAdd, Nat.reduceMul, Nat.reduceLeDiff, Nat.le_refl, Int.natCast_zero, Int.toNat_natCast, Int.reduceToNat, hgt]
    refine sCallT_ioR [1000000000] ?_
    simp -dsimp -implicitDefEqProofs only [go_sem, ↓reduceIte, Nat.reduceEqDiff, Nat.reduceLT, Nat.reduceAdd, Nat.reduceMul, Nat.reduceLeDiff, Nat.le_refl, Int.natCast_zero, Int.toNat_natCast, Int.reduceToNat]
    refine sCallMR_any (qd _) ?_
    rintro _ _ ⟨rfl, rfl⟩
    simp -dsimp -implicitDefEqProofs only [go_sem, ↓reduceIte, Nat.reduceEqDiff, Nat.reduceLT, Nat.reduceAdd, Nat.reduceMul, Nat.reduceLeDiff, Nat.le_refl, Int.natCast_zero, Int.toNat_natCast, Int.reduceToNat]
    refine .inr ⟨by omega, by omega, (by cases i with | zero => exact .inr rfl | succ i => exact .inl rfl), ⟨by omega, by omega⟩, ?_⟩
    rw [e0, e2]
    simp -dsimp -implicitDefEqProofs only [go_sem, ↓reduceIte, Nat.reduceEqDiff, Nat.reduceLT, Nat.reduceAdd, Nat.reduceMul, Nat.reduceLeDiff, Nat.le_refl, Int.natCast_zero, Int.toNat_natCast, Int.reduceToNat, tR]
    ((repeat' (with_reducible refine And.intro ?_ ?_)); all_goals try (first | omega | (refine ⟨?_, ?_⟩ <;> omega) | (exact rfl)))
    all_goals first | (congr 1; omega) | (simp; omega) | trace_state
  · obtain ⟨o1, o2, o3⟩ := hok (1 + c.1).toNat
    have hgt : decide (1 + c.1 - (((1 + c.1).toNat : Nat) : Int) > 0) = false := decide_eq_false (by omega)
    generalize rightsTo bs ps.length c.2 (1 + c.1).toNat = R at *
    have tR := tk eIs R.1 (1 + c.1).toNat (by omega)
    simp -dsimp -implicitDefEqProofs only [pick_nil, pick_cons, look_nil, look_cons, dropB_nil, dropB_cons, inD_nil, inD_cons, inE_nil, inE_cons, or_t_l, or_f_l, Nat.reduceBEq, Nat.reduceDiv, Nat.reduceAdd, beq_self_eq_true, Bool.false_eq_true, Bool.or_false, ↓reduceIte, Nat.reduceEqDiff, List.cons_append, List.nil_append]
    simp -dsimp -implicitDefEqProofs only [go_sem, ↓reduceIte, Nat.reduceEqDiff, Nat.reduceLT, Nat.reduceAdd, Nat.reduceMul, Nat.reduceLeDiff, Nat.le_refl, Int.natCast_zero, Int.toNat_natCast, Int.reduceToNat, hgt]
    ((repeat' (with_reducible refine And.intro ?_ ?_)); all_goals try (first | omega | (refine ⟨?_, ?_⟩ <;> omega) | (exact rfl)))
    all_goals first | (rw [tR]; done) | (simp [*]; done) | trace_state
theorem c_l10Access (p : PlanM) (hp : planOk p) : Fn Try.prog 52 [ePl p] true (· = eIss (accT p)) := by
  obtain ⟨h1, h2, h3, h4, h5, h6⟩ := hp
  obtain ⟨ps, ds, rights⟩ := p
  simp only at h1 h2 h3 h4 h5 h6
  have hq := c_l09Doors ps ds 0 h5 (by omega) h2
  have hmem : ∀ d ∈ doorsU ps ds 0, 0 ≤ d ∧ d < ps.length := fun d hd => by
    unfold doorsU at hd
    obtain ⟨j, hj, rfl, _⟩ := flt_mem hd
    omega
  have hlen : (doorsU ps ds 0).length ≤ 10 := by
    have := flt_len (fun i => ds.getD i false && undF ps ps.length (i : Int) 0) ds.length
    unfold doorsU; omega
  have hacc : ∀ x, accRow ⟨ps, ds, rights⟩ x = (doorsU ps ds 0).map fun d => if mayE ps x d = true then 1 else 0 := fun _ => rfl
  have haccT : accT ⟨ps, ds, rights⟩ = rights.map (accRow ⟨ps, ds, rights⟩) := rfl
  rw [haccT]
  clear haccT
  refine Fn.of_vcN 49 [.tmp 2] Try.func52 rfl rfl rfl rfl rfl (of_decide_eq_true rfl) ?_
  generalize doorsU ps ds 0 = D at *
  simp -dsimp -implicitDefEqProofs only [go_sem, ↓reduceIte, Nat.reduceEqDiff, Nat.reduceLT, Nat.reduceAdd, Nat.reduceMul, Nat.reduceLeDiff, Nat.le_refl, Int.natCast_zero, Int.toNat_natCast, Int.reduceToNat]
  refine sCallT_one hq ?_
  simp -dsimp -implicitDefEqProofs only [go_sem, ↓reduceIte, Nat.reduceEqDiff, Nat.reduceLT, Nat.reduceAdd, Nat.reduceMul, Nat.reduceLeDiff, Nat.le_refl, Int.natCast_zero, Int.toNat_natCast, Int.reduceToNat]
  refine Later.upP [1, 3] [15, 19, 22, 37, 39, 40, 42, 43, 46, 47] [11, 19] rights.length (fun _ => True) (fun k => [(5, eI k), (4, .ref 11 0 0 k)]) (fun k => [(11, .row 0 ⟨1, false⟩ true (((rights.take k).map (accRow ⟨ps, ds, rights⟩)).map eIs))]) trivial (.here ?_) rfl (fun k hk _ => ?_) (fun _ => ?_)
  · simp -dsimp -implicitDefEqProofs only [go_sem, ↓reduceIte, Nat.reduceEqDiff, Nat.reduceLT, Nat.reduceAdd, Nat.reduceMul, Nat.reduceLeDiff, Nat.le_refl, Int.natCast_zero, Int.toNat_natCast, Int.reduceToNat, List.take_zero, List.map_nil]
    ((repeat' (with_reducible refine And.intro ?_ ?_)); all_goals try (first | omega | (refine ⟨?_, ?_⟩ <;> omega) | (exact rfl)))
  · refine Later.vc rfl ?_
    have gk := get_some hk
    have lk := lt_len hk
    have ht : (rights.take (k + 1)).map (accRow ⟨ps, ds, rights⟩) = (rights.take k).map (accRow ⟨ps, ds, rights⟩) ++ [accRow ⟨ps, ds, rights⟩ rights[k]] := by rw [List.take_succ_eq_append_getElem hk, List.map_append]; rfl
    have hln : ((rights.take k).map (accRow ⟨ps, ds, rights⟩)).length = k := by simp; omega
    have hrl := h4 _ (List.getElem_mem hk)
    rw [ht, hacc rights[k]]
    clear ht
    generalize (rights.take k).map (accRow ⟨ps, ds, rights⟩) = F at *
    generalize rights[k] = nodes at *
    have tF := tk eIs F k (by omega)
    simp -dsimp -implicitDefEqProofs only [pick_nil, pick_cons, look_nil, look_cons, dropB_nil, dropB_cons, inD_nil, inD_cons, inE_nil, inE_cons, or_t_l, or_f_l, Nat.reduceBEq, Nat.reduceDiv, Nat.reduceAdd, beq_self_eq_true, Bool.false_eq_true, Bool.or_false, ↓reduceIte, Nat.reduceEqDiff, List.cons_append, List.nil_append]
    simp -dsimp -implicitDefEqProofs only [go_sem, ↓reduceIte, Nat.reduceEqDiff, Nat.reduceLT, Nat.reduceAdd, Nat.reduceMul, Nat.reduceLeDiff, Nat.le_refl, Int.natCast_zero, Int.toNat_natCast, Int.reduceToNat, lk]
    refine Later.upP [1, 3, 4, 5] [22, 37, 39, 40, 42, 43] [19] D.length (fun _ => True) (fun i => [(7, eI i), (6, .ref 19 0 0 i)]) (fun i => [(19, .row 0 ⟨1, false⟩ true (((D.take i).map fun d => if mayE ps nodes d = true then 1 else 0).map eI))]) trivial (.here ?_) rfl (fun i hi _ => ?_) (fun _ => ?_)
    · simp -dsimp -implicitDefEqProofs only [go_sem, ↓reduceIte, Nat.reduceEqDiff, Nat.reduceLT, Nat.reduceAdd, Nat.reduceMul, Nat.reduceLeDiff, Nat.le_refl, Int.natCast_zero, Int.toNat_natCast, Int.reduceToNat, List.take_zero, List.map_nil]
      ((repeat' (with_reducible refine And.intro ?_ ?_)); all_goals try (first | omega | (refine ⟨?_, ?_⟩ <;> omega) | (exact rfl)))
    · refine Later.vc rfl ?_
      have gi := get_some hi
      have li := lt_len hi
      have hd := hmem _ (List.getElem_mem hi)
      have hm := c_l10May ps ds nodes D[i] h5 (by omega) hd.1 hd.2 (by omega)
      have ht : (D.take (i + 1)).map (fun d => if mayE ps nodes d = true then (1 : Int) else 0) = (D.take i).map (fun d => if mayE ps nodes d = true then (1 : Int) else 0) ++ [if mayE ps nodes D[i] = true then 1 else 0] := by rw [List.take_succ_eq_append_getElem hi, List.map_append]; rfl
      have hln2 : ((D.take i).map fun d => if mayE ps nodes d = true then (1 : Int) else 0).length = i := by simp; omega
      rw [ht]
      clear ht
      generalize ((D.take i).map fun d => if mayE ps nodes d = true then (1 : Int) else 0) = G at *
      generalize D[i] = d at *
      generalize mayE ps nodes d = mb at *
      have tG := tk eI G i (by omega)
      simp -dsimp -implicitDefEqProofs only [pick_nil, pick_cons, look_nil, look_cons, dropB_nil, dropB_cons, inD_nil, inD_cons, inE_nil, inE_cons, or_t_l, or_f_l, Nat.reduceBEq, Nat.reduceDiv, Nat.reduceAdd, beq_self_eq_true, Bool.false_eq_true, Bool.or_false, ↓reduceIte, Nat.reduceEqDiff, List.cons_append, List.nil_append]
      simp -dsimp -implicitDefEqProofs only [go_sem, ↓reduceIte, Nat.reduceEqDiff, Nat.reduceLT, Nat.reduceAdd, Nat.reduceMul, Nat.reduceLeDiff, Nat.le_refl, Int.natCast_zero, Int.toNat_natCast, Int.reduceToNat, li]
      refine Later.draw mixed rfl ?_
      simp -dsimp -implicitDefEqProofs only [go_sem, ↓reduceIte, Nat.reduceEqDiff, Nat.reduceLT, Nat.reduceAdd, Nat.reduceMul, Nat.reduceLeDiff, Nat.le_refl, Int.natCast_zero, Int.toNat_natCast, Int.reduceToNat, gi, gk]
      ((repeat' (with_reducible refine And.intro ?_ ?_)); all_goals try (first | omega | (refine ⟨?_, ?_⟩ <;> omega) | (exact rfl)))
      refine sCallX_one hm ?_
      cases mb with
      | true =>
        simp -dsimp -implicitDefEqProofs only [go_sem, ↓reduceIte, Nat.reduceEqDiff, Nat.reduceLT, Nat.reduceAdd, Nat.reduceMul, Nat.reduceLeDiff, Nat.le_refl, Int.natCast_zero, Int.toNat_natCast, Int.reduceToNat, tG]
        ((repeat' (with_reducible refine And.intro ?_ ?_)); all_goals try (first | omega | (refine ⟨?_, ?_⟩ <;> omega) | (exact rfl)))
        all_goals first | (refine .here ?_; simp -dsimp -implicitDefEqProofs only [go_sem, ↓reduceIte, Nat.reduceEqDiff, Nat.reduceLT, Nat.reduceAdd, Nat.reduceMul, Nat.reduceLeDiff, Nat.le_refl, Int.natCast_zero, Int.toNat_natCast, Int.reduceToNat, tG]; ((repeat' (with_reducible refine And.intro ?_ ?_)); all_goals try (first | omega | (refine ⟨?_, ?_⟩ <;> omega) | (exact rfl))); all_goals first | (simp; done) | trace_state) | trace_state
      | false =>
        simp -dsimp -implicitDefEqProofs only [go_sem, ↓reduceIte, Nat.reduceEqDiff, Nat.reduceLT, Nat.reduceAdd, Nat.reduceMul, Nat.reduceLeDiff, Nat.le_refl, Int.natCast_zero, Int.toNat_natCast, Int.reduceToNat, tG]
        ((repeat' (with_reducible refine And.intro ?_ ?_)); all_goals try (first | omega | (refine ⟨?_, ?_⟩ <;> omega) | (exact rfl)))
        all_goals first | (refine .here ?_; simp -dsimp -implicitDefEqProofs only [go_sem, ↓reduceIte, Nat.reduceEqDiff, Nat.reduceLT, Nat.reduceAdd, Nat.reduceMul, Nat.reduceLeDiff, Nat.le_refl, Int.natCast_zero, Int.toNat_natCast, Int.reduceToNat, tG]; ((repeat' (with_reducible refine And.intro ?_ ?_)); all_goals try (first | omega | (refine ⟨?_, ?_⟩ <;> omega) | (exact rfl))); all_goals first | (simp; done) | trace_state) | trace_state
    · rw [List.take_length]
      have hln2 : (D.map fun d => if mayE ps nodes d = true then (1 : Int) else 0).length = D.length := by simp
      generalize (D.map fun d => if mayE ps nodes d = true then (1 : Int) else 0) = G at *
      refine Later.known 6 19 0 D.length ⟨1, false⟩ _ rfl (by decide) rfl (by simp [hln2]) h6 (by decide) fun u => ?_
      refine Later.vc rfl ?_
      have e2 : (F.map eIs ++ [AV.val u]).set k (.arr ⟨1, false⟩ (G.map eI)) = (F ++ [G]).map eIs := by
        rw [List.set_append_right _ _ (by simp [hln])]
        simp [hln, eIs]
      simp -dsimp -implicitDefEqProofs only [pick_nil, pick_cons, look_nil, look_cons, dropB_nil, dropB_cons, inD_nil, inD_cons, inE_nil, inE_cons, or_t_l, or_f_l, Nat.reduceBEq, Nat.reduceDiv, Nat.reduceAdd, beq_self_eq_true, Bool.false_eq_true, Bool.or_false, ↓reduceIte, Nat.reduceEqDiff, List.cons_append, List.nil_append]
      simp -dsimp -implicitDefEqProofs only [go_sem, ↓reduceIte, Nat.reduceEqDiff, Nat.reduceLT, Nat.reduceAdd, Nat.reduceMul, Nat.reduceLeDiff, Nat.le_refl, Int.natCast_zero, Int.toNat_natCast, Int.reduceToNat, nlt_len, tF]
      ((repeat' (with_reducible refine And.intro ?_ ?_)); all_goals try (first | omega | (refine ⟨?_, ?_⟩ <;> omega) | (exact rfl)))
      all_goals first
        | (refine RefP.back 11 1 k 19 0 _ _ _ u (by decide) rfl (by simp [hln]) rfl (.here ?_)
           rw [e2]
           simp -dsimp -implicitDefEqProofs only [go_sem, ↓reduceIte, Nat.reduceEqDiff, Nat.reduceLT, Nat.reduceAdd, Nat.reduceMul, Nat.reduceLeDiff, Nat.le_refl, Int.natCast_zero, Int.toNat_natCast, Int.reduceToNat]
           ((repeat' (with_reducible refine And.intro ?_ ?_)); all_goals try (first | omega | (refine ⟨?_, ?_⟩ <;> omega) | (exact rfl)))
           all_goals trace_state)
        | trace_state
  · rw [List.take_length]
    have hln : (rights.map (accRow ⟨ps, ds, rights⟩)).length = rights.length := by simp
    generalize rights.map (accRow ⟨ps, ds, rights⟩) = F at *
    have tF := tk eIs F rights.length (by omega)
    refine Later.vc rfl ?_
    simp -dsimp -implicitDefEqProofs only [pick_nil, pick_cons, look_nil, look_cons, dropB_nil, dropB_cons, inD_nil, inD_cons, inE_nil, inE_cons, or_t_l, or_f_l, Nat.reduceBEq, Nat.reduceDiv, Nat.reduceAdd, beq_self_eq_true, Bool.false_eq_true, Bool.or_false, ↓reduceIte, Nat.reduceEqDiff, List.cons_append, List.nil_append]
    simp -dsimp -implicitDefEqProofs only [go_sem, ↓reduceIte, Nat.reduceEqDiff, Nat.reduceLT, Nat.reduceAdd, Nat.reduceMul, Nat.reduceLeDiff, Nat.le_refl, Int.natCast_zero, Int.toNat_natCast, Int.reduceToNat, nlt_len]
    ((repeat' (with_reducible refine And.intro ?_ ?_)); all_goals try (first | omega | (refine ⟨?_, ?_⟩ <;> omega) | (exact rfl)))
    all_goals first | (rw [tF]; done) | (simp; done) | trace_state
end Go.Vc


/-
  Draws of access tables.
-/
set_option linter.unusedVariables false
set_option linter.unusedSimpArgs false
set_option linter.unnecessarySimpa false
namespace Go.Vc
open Go.Proofs
set_option maxRecDepth 100000
set_option maxHeartbeats 4000000
theorem c_l11Valid (v : Nat) (bs : List UInt8) (s : Src) (h : SrcOk s) (hl : bs.length ≤ 4096) :
    FnM Try.prog 42 [srcB v bs s] [.ptr 1000000000 v 0 0] (fun x io => x = eIss (tabV bs s).1 ∧ io = [srcB v bs (tabV bs s).2]) := by
  refine FnM.of_vcN 44 [.tmp 2] Try.func42 rfl rfl rfl rfl rfl (of_decide_eq_true rfl) ?_
  have q3 := fun v => c_l01Next v bs 3 s h hl
  have a := (nx_ok bs 3 h).2.2.2
  obtain ⟨RR, hR⟩ : ∃ RR, tabV bs s = RR := ⟨_, rfl⟩
  rw [hR]
  unfold tabV at hR
  generalize nx bs 3 s = n3 at *
  simp -dsimp -implicitDefEqProofs only [go_sem, ↓reduceIte, Nat.reduceEqDiff, Nat.reduceLT, Nat.reduceAdd, Nat.reduceMul, Nat.reduceLeDiff, Nat.le_refl, Int.natCast_zero, Int.toNat_natCast, Int.reduceToNat]
  (refine sCallT_io [1000000000] ?_; simp -dsimp -implicitDefEqProofs only [go_sem, ↓reduceIte, Nat.reduceEqDiff, Nat.reduceLT, Nat.reduceAdd, Nat.reduceMul, Nat.reduceLeDiff, Nat.le_refl, Int.natCast_zero, Int.toNat_natCast, Int.reduceToNat]; refine sCallM_one (q3 _) ?_; simp -dsimp -implicitDefEqProofs only [go_sem, ↓reduceIte, Nat.reduceEqDiff, Nat.reduceLT, Nat.reduceAdd, Nat.reduceMul, Nat.reduceLeDiff, Nat.le_refl, Int.natCast_zero, Int.toNat_natCast, Int.reduceToNat])
  cases h0 : (n3.1 == 0) with
  | true =>
    have qv := fun v => c_l10Valid v bs n3.2 a hl
    have hp := (planD_ok bs a).2
    rw [h0, if_pos rfl] at hR
    subst hR
    generalize planD bs n3.2 = p at *
    have qa := c_l10Access p.1 hp
    simp -dsimp -implicitDefEqProofs only [go_sem, ↓reduceIte, Nat.reduceEqDiff, Nat.reduceLT, Nat.reduceAdd, Nat.reduceMul, Nat.reduceLeDiff, Nat.le_refl, Int.natCast_zero, Int.toNat_natCast, Int.reduceToNat, h0]
    ((repeat' (with_reducible refine And.intro ?_ ?_)); all_goals try (first | omega | (refine ⟨?_, ?_⟩ <;> omega) | (exact rfl)))
    refine sCallT_ioR [1000000000] ?_
    simp -dsimp -implicitDefEqProofs only [go_sem, ↓reduceIte, Nat.reduceEqDiff, Nat.reduceLT, Nat.reduceAdd, Nat.reduceMul, Nat.reduceLeDiff, Nat.le_refl, Int.natCast_zero, Int.toNat_natCast, Int.reduceToNat]
    refine sCallMR_any (qv _) ?_
    rintro _ _ ⟨rfl, rfl⟩
    simp -dsimp -implicitDefEqProofs only [go_sem, ↓reduceIte, Nat.reduceEqDiff, Nat.reduceLT, Nat.reduceAdd, Nat.reduceMul, Nat.reduceLeDiff, Nat.le_refl, Int.natCast_zero, Int.toNat_natCast, Int.reduceToNat]
    refine sCallT_one qa ?_
    simp -dsimp -implicitDefEqProofs only [go_sem, ↓reduceIte, Nat.reduceEqDiff, Nat.reduceLT, Nat.reduceAdd, Nat.reduceMul, Nat.reduceLeDiff, Nat.le_refl, Int.natCast_zero, Int.toNat_natCast, Int.reduceToNat]
    ((repeat' (with_reducible refine And.intro ?_ ?_)); all_goals try (first | omega | (refine ⟨?_, ?_⟩ <;> omega) | (exact rfl)))
    all_goals first | (simp; done) | trace_state
  | false =>
    have q4 := fun v => c_l01Next v bs 4 n3.2 a hl
    have b := nx_ok bs 4 a
    have b3 := b.2.2.1 (by omega)
    rw [h0, if_neg (by simp)] at hR
    subst hR
    generalize nx bs 4 n3.2 = n4 at *
    have q5 := fun v => c_l01Next v bs 5 n4.2 b.2.2.2 hl
    have c := nx_ok bs 5 b.2.2.2
    have c3 := c.2.2.1 (by omega)
    generalize nx bs 5 n4.2 = n5 at *
    obtain ⟨r, hr⟩ : ∃ r : Nat, (1 + n4.1).toNat = r := ⟨_, rfl⟩
    obtain ⟨cN, hc⟩ : ∃ c : Nat, (1 + n5.1).toNat = c := ⟨_, rfl⟩
    have er : 1 + n4.1 = (r : Int) := by omega
    have ec : 1 + n5.1 = (cN : Int) := by omega
    have hok := fun i => ttabTo_ok (bs := bs) c.2.2.2 cN i
    rw [hr, hc]
    simp -dsimp -implicitDefEqProofs only [go_sem, ↓reduceIte, Nat.reduceEqDiff, Nat.reduceLT, Nat.reduceAdd, Nat.reduceMul, Nat.reduceLeDiff, Nat.le_refl, Int.natCast_zero, Int.toNat_natCast, Int.reduceToNat, h0]
    ((repeat' (with_reducible refine And.intro ?_ ?_)); all_goals try (first | omega | (refine ⟨?_, ?_⟩ <;> omega) | (exact rfl)))
    (refine sCallT_io [1000000000] ?_; simp -dsimp -implicitDefEqProofs only [go_sem, ↓reduceIte, Nat.reduceEqDiff, Nat.reduceLT, Nat.reduceAdd, Nat.reduceMul, Nat.reduceLeDiff, Nat.le_refl, Int.natCast_zero, Int.toNat_natCast, Int.reduceToNat]; refine sCallM_one (q4 _) ?_; simp -dsimp -implicitDefEqProofs only [go_sem, ↓reduceIte, Nat.reduceEqDiff, Nat.reduceLT, Nat.reduceAdd, Nat.reduceMul, Nat.reduceLeDiff, Nat.le_refl, Int.natCast_zero, Int.toNat_natCast, Int.reduceToNat])
    ((repeat' (with_reducible refine And.intro ?_ ?_)); all_goals try (first | omega | (refine ⟨?_, ?_⟩ <;> omega) | (exact rfl)))
    (refine sCallT_io [1000000000] ?_; simp -dsimp -implicitDefEqProofs only [go_sem, ↓reduceIte, Nat.reduceEqDiff, Nat.reduceLT, Nat.reduceAdd, Nat.reduceMul, Nat.reduceLeDiff, Nat.le_refl, Int.natCast_zero, Int.toNat_natCast, Int.reduceToNat]; refine sCallM_one (q5 _) ?_; simp -dsimp -implicitDefEqProofs only [go_sem, ↓reduceIte, Nat.reduceEqDiff, Nat.reduceLT, Nat.reduceAdd, Nat.reduceMul, Nat.reduceLeDiff, Nat.le_refl, Int.natCast_zero, Int.toNat_natCast, Int.reduceToNat])
    ((repeat' (with_reducible refine And.intro ?_ ?_)); all_goals try (first | omega | (refine ⟨?_, ?_⟩ <;> omega) | (exact rfl)))
    rw [er, ec]
    have hrl : r ≤ 4 := by omega
    have hcl : cN ≤ 5 := by omega
    have hc1 : 1 ≤ cN := by omega
    clear hr hc er ec b3 c3 b c
    refine Later.upP [0, 3, 4] [27, 35, 36, 37, 38, 41, 42] [21, 27, 35, 1000000000] r (fun _ => True) (fun i => [(6, eI i), (5, .ref 21 0 0 i)]) (fun i => [(21, .row 0 ⟨1, false⟩ true ((ttabTo bs cN n5.2 i).1.map eIs)), (1000000000, srcB v bs (ttabTo bs cN n5.2 i).2)]) trivial (.here ?_) rfl (fun i hi _ => ?_) (fun _ => ?_)
    · simp -dsimp -implicitDefEqProofs only [go_sem, ↓reduceIte, Nat.reduceEqDiff, Nat.reduceLT, Nat.reduceAdd, Nat.reduceMul, Nat.reduceLeDiff, Nat.le_refl, Int.natCast_zero, Int.toNat_natCast, Int.reduceToNat, ttabTo]
      ((repeat' (with_reducible refine And.intro ?_ ?_)); all_goals try (first | omega | (refine ⟨?_, ?_⟩ <;> omega) | (exact rfl)))
    · refine Later.vc rfl ?_
      obtain ⟨o1, o2, o3⟩ := hok i
      have hlt : decide ((i : Int) < r) = true := decide_eq_true (by omega)
      have hrok := fun k => trowTo_ok (bs := bs) o1 k
      rw [ttabTo_succ]
      generalize ttabTo bs cN n5.2 i = T at *
      have tT := tk eIs T.1 i (by omega)
      simp -dsimp -implicitDefEqProofs only [pick_nil, pick_cons, look_nil, look_cons, dropB_nil, dropB_cons, inD_nil, inD_cons, inE_nil, inE_cons, or_t_l, or_f_l, Nat.reduceBEq, Nat.reduceDiv, Nat.reduceAdd, beq_self_eq_true, Bool.false_eq_true, Bool.or_false, ↓reduceIte, Nat.reduceEqDiff, List.cons_append, List.nil_append]
      simp -dsimp -implicitDefEqProofs only [go_sem, ↓reduceIte, Nat.reduceEqDiff, Nat.reduceLT, Nat.reduceAdd, Nat.reduceMul, Nat.reduceLeDiff, Nat.le_refl, Int.natCast_zero, Int.toNat_natCast, Int.reduceToNat, hlt]
      refine Later.upP [0, 3, 4, 5, 6] [35, 36, 37, 38] [27, 35, 1000000000] cN (fun _ => True) (fun k => [(8, eI k), (7, .ref 27 0 0 k)]) (fun k => [(27, .row 0 ⟨1, false⟩ true ((trowTo bs T.2 k).1.map eI)), (1000000000, srcB v bs (trowTo bs T.2 k).2)]) trivial (.here ?_) rfl (fun k hk _ => ?_) (fun _ => ?_)
      · simp -dsimp -implicitDefEqProofs only [go_sem, ↓reduceIte, Nat.reduceEqDiff, Nat.reduceLT, Nat.reduceAdd, Nat.reduceMul, Nat.reduceLeDiff, Nat.le_refl, Int.natCast_zero, Int.toNat_natCast, Int.reduceToNat, trowTo]
        ((repeat' (with_reducible refine And.intro ?_ ?_)); all_goals try (first | omega | (refine ⟨?_, ?_⟩ <;> omega) | (exact rfl)))
      · refine Later.vc rfl ?_
        obtain ⟨p1, p2⟩ := hrok k
        have hlt : decide ((k : Int) < cN) = true := decide_eq_true (by omega)
        rw [trowTo_succ]
        generalize trowTo bs T.2 k = R at *
        have qp := fun v v2 => c_l01Pick v v2 true bs [0, 1, 1] _ R.2 rfl (by simp) (by simp) p1 hl
        generalize pk bs [0, 1, 1] R.2 = pp at *
        have tR := tk eI R.1 k (by omega)
        simp -dsimp -implicitDefEqProofs only [pick_nil, pick_cons, look_nil, look_cons, dropB_nil, dropB_cons, inD_nil, inD_cons, inE_nil, inE_cons, or_t_l, or_f_l, Nat.reduceBEq, Nat.reduceDiv, Nat.reduceAdd, beq_self_eq_true, Bool.false_eq_true, Bool.or_false, ↓reduceIte, Nat.reduceEqDiff, List.cons_append, List.nil_append]
        simp -dsimp -implicitDefEqProofs only [go_sem, ↓reduceIte, Nat.reduceEqDiff, Nat.reduceLT, Nat.reduceAdd, Nat.reduceMul, Nat.reduceLeDiff, Nat.le_refl, Int.natCast_zero, Int.toNat_natCast, Int.reduceToNat, hlt]
        ((repeat' (with_reducible refine And.intro ?_ ?_)); all_goals try (first | omega | (refine ⟨?_, ?_⟩ <;> omega) | (exact rfl)))
        (refine sCallT_io [1000000000, 35] ?_; simp -dsimp -implicitDefEqProofs only [go_sem, ↓reduceIte, Nat.reduceEqDiff, Nat.reduceLT, Nat.reduceAdd, Nat.reduceMul, Nat.reduceLeDiff, Nat.le_refl, Int.natCast_zero, Int.toNat_natCast, Int.reduceToNat]; refine sCallM_one (qp _ _) ?_; simp -dsimp -implicitDefEqProofs only [go_sem, ↓reduceIte, Nat.reduceEqDiff, Nat.reduceLT, Nat.reduceAdd, Nat.reduceMul, Nat.reduceLeDiff, Nat.le_refl, Int.natCast_zero, Int.toNat_natCast, Int.reduceToNat])
        ((repeat' (with_reducible refine And.intro ?_ ?_)); all_goals try (first | omega | (refine ⟨?_, ?_⟩ <;> omega) | (exact rfl)))
        all_goals first | (refine .here ?_; simp -dsimp -implicitDefEqProofs only [go_sem, ↓reduceIte, Nat.reduceEqDiff, Nat.reduceLT, Nat.reduceAdd, Nat.reduceMul, Nat.reduceLeDiff, Nat.le_refl, Int.natCast_zero, Int.toNat_natCast, Int.reduceToNat, tR]; ((repeat' (with_reducible refine And.intro ?_ ?_)); all_goals try (first | omega | (refine ⟨?_, ?_⟩ <;> omega) | (exact rfl))); all_goals first | (simp; done) | trace_state) | trace_state
      · obtain ⟨p1, p2⟩ := hrok cN
        generalize trowTo bs T.2 cN = R at *
        refine Later.known 7 27 0 cN ⟨1, false⟩ _ rfl (by decide) rfl (by simp [p2]) (by omega) (by decide) fun u => ?_
        refine Later.vc rfl ?_
        have hge : decide ((cN : Int) < cN) = false := decide_eq_false (by omega)
        have e2 : (T.1.map eIs ++ [AV.val u]).set i (.arr ⟨1, false⟩ (R.1.map eI)) = (T.1 ++ [R.1]).map eIs := by
          rw [List.set_append_right _ _ (by simp [o2])]
          simp [o2, eIs]
        simp -dsimp -implicitDefEqProofs only [pick_nil, pick_cons, look_nil, look_cons, dropB_nil, dropB_cons, inD_nil, inD_cons, inE_nil, inE_cons, or_t_l, or_f_l, Nat.reduceBEq, Nat.reduceDiv, Nat.reduceAdd, beq_self_eq_true, Bool.false_eq_true, Bool.or_false, ↓reduceIte, Nat.reduceEqDiff, List.cons_append, List.nil_append]
        simp -dsimp -implicitDefEqProofs only [go_sem, ↓reduceIte, Nat.reduceEqDiff, Nat.reduceLT, Nat.reduceAdd, Nat.reduceMul, Nat.reduceLeDiff, Nat.le_refl, Int.natCast_zero, Int.toNat_natCast, Int.reduceToNat, hge, tT]
        ((repeat' (with_reducible refine And.intro ?_ ?_)); all_goals try (first | omega | (refine ⟨?_, ?_⟩ <;> omega) | (exact rfl)))
        all_goals first
          | (refine RefP.back 21 1 i 27 0 _ _ _ u (by decide) rfl (by simp [o2]) rfl (.here ?_)
             rw [e2]
             simp -dsimp -implicitDefEqProofs only [go_sem, ↓reduceIte, Nat.reduceEqDiff, Nat.reduceLT, Nat.reduceAdd, Nat.reduceMul, Nat.reduceLeDiff, Nat.le_refl, Int.natCast_zero, Int.toNat_natCast, Int.reduceToNat]
             ((repeat' (with_reducible refine And.intro ?_ ?_)); all_goals try (first | omega | (refine ⟨?_, ?_⟩ <;> omega) | (exact rfl)))
             all_goals trace_state)
          | trace_state
    · obtain ⟨o1, o2, o3⟩ := hok r
      generalize ttabTo bs cN n5.2 r = T at *
      have tT := tk eIs T.1 r (by omega)
      have hge : decide ((r : Int) < r) = false := decide_eq_false (by omega)
      refine Later.vc rfl ?_
      simp -dsimp -implicitDefEqProofs only [pick_nil, pick_cons, look_nil, look_cons, dropB_nil, dropB_cons, inD_nil, inD_cons, inE_nil, inE_cons, or_t_l, or_f_l, Nat.reduceBEq, Nat.reduceDiv, Nat.reduceAdd, beq_self_eq_true, Bool.false_eq_true, Bool.or_false, ↓reduceIte, Nat.reduceEqDiff, List.cons_append, List.nil_append]
      simp -dsimp -implicitDefEqProofs only [go_sem, ↓reduceIte, Nat.reduceEqDiff, Nat.reduceLT, Nat.reduceAdd, Nat.reduceMul, Nat.reduceLeDiff, Nat.le_refl, Int.natCast_zero, Int.toNat_natCast, Int.reduceToNat, hge]
      ((repeat' (with_reducible refine And.intro ?_ ?_)); all_goals try (first | omega | (refine ⟨?_, ?_⟩ <;> omega) | (exact rfl)))
      all_goals first | (refine ⟨_, .inl rfl, ?_⟩; simp [eIs]; done) | (rw [tT]; done) | (simp; done) | trace_state
theorem c_l11Draw (v : Nat) (bs : List UInt8) (s : Src) (h : SrcOk s) (hl : bs.length ≤ 4096) :
    FnMR Try.prog 25 [srcB v bs s] [.ptr 1000000000 v 0 0] (fun x io => x = eIss (tabD bs s).1 ∧ io = [srcB v bs (tabD bs s).2]) := by
  refine FnMR.nil0 ?_
  refine FnMR.of_vc 47 [.tmp 2] Try.func25 rfl rfl rfl rfl rfl (of_decide_eq_true rfl) ?_
  have qv := fun v => c_l11Valid v bs s h hl
  have ht := tabV_ok bs h
  obtain ⟨RR, hR⟩ : ∃ RR, tabD bs s = RR := ⟨_, rfl⟩
  rw [hR]
  unfold tabD at hR
  generalize tabV bs s = T at *
  obtain ⟨T, s1⟩ := T
  obtain ⟨o1, t1, t2, t3⟩ := ht
  simp only at o1 t1 t2 t3 hR qv
  unfold tabW at hR
  have q30 := fun v => c_l01Next v bs 30 s1 o1 hl
  have a := (nx_ok bs 30 o1).2.2.2
  generalize nx bs 30 s1 = n at *
  simp -dsimp -implicitDefEqProofs only [go_sem, ↓reduceIte, Nat.reduceEqDiff, Nat.reduceLT, Nat.reduceAdd, Nat.reduceMul, Nat.reduceLeDiff, Nat.le_refl, Int.natCast_zero, Int.toNat_natCast, Int.reduceToNat]
  refine sCallT_io [1000000000] ?_
  simp -dsimp -implicitDefEqProofs only [go_sem, ↓reduceIte, Nat.reduceEqDiff, Nat.reduceLT, Nat.reduceAdd, Nat.reduceMul, Nat.reduceLeDiff, Nat.le_refl, Int.natCast_zero, Int.toNat_natCast, Int.reduceToNat]
  refine sCallM_any (qv _) ?_
  rintro _ _ ⟨rfl, rfl⟩
  simp -dsimp -implicitDefEqProofs only [go_sem, ↓reduceIte, Nat.reduceEqDiff, Nat.reduceLT, Nat.reduceAdd, Nat.reduceMul, Nat.reduceLeDiff, Nat.le_refl, Int.natCast_zero, Int.toNat_natCast, Int.reduceToNat]
  cases h0 : (n.1 == 0) with
  | true =>
    rw [h0, if_pos rfl] at hR
    subst hR
    have qp := fun v v2 => c_l01Pick v v2 true bs [-1, 2] _ n.2 rfl (by simp) (by simp) a hl
    generalize pk bs [-1, 2] n.2 = pp at *
    (refine sCallT_io [1000000000] ?_; simp -dsimp -implicitDefEqProofs only [go_sem, ↓reduceIte, Nat.reduceEqDiff, Nat.reduceLT, Nat.reduceAdd, Nat.reduceMul, Nat.reduceLeDiff, Nat.le_refl, Int.natCast_zero, Int.toNat_natCast, Int.reduceToNat]; refine sCallM_one (q30 _) ?_; simp -dsimp -implicitDefEqProofs only [go_sem, ↓reduceIte, Nat.reduceEqDiff, Nat.reduceLT, Nat.reduceAdd, Nat.reduceMul, Nat.reduceLeDiff, Nat.le_refl, Int.natCast_zero, Int.toNat_natCast, Int.reduceToNat])
    simp -dsimp -implicitDefEqProofs only [go_sem, ↓reduceIte, Nat.reduceEqDiff, Nat.reduceLT, Nat.reduceAdd, Nat.reduceMul, Nat.reduceLeDiff, Nat.le_refl, Int.natCast_zero, Int.toNat_natCast, Int.reduceToNat, h0]
    obtain ⟨r0, T, rfl⟩ : ∃ r0 T', T = r0 :: T' := by cases T with
      | nil => simp at t1
      | cons r0 T => exact ⟨_, _, rfl⟩
    have hr0 := (t3 r0 (List.mem_cons_self ..)).1
    obtain ⟨c0, r0, rfl⟩ : ∃ c0 r', r0 = c0 :: r' := by cases r0 with
      | nil => simp at hr0
      | cons c0 r0 => exact ⟨_, _, rfl⟩
    refine Later.takeOut 6000 0 0 90 _ ((c0 :: r0).map eI) ⟨1, false⟩ (by decide) rfl rfl (by rw [List.length_map]; exact hr0) rfl fun u => ?_
    refine Later.hook ?_
    refine Later.solo 6 mixed rfl ?_
    simp -dsimp -implicitDefEqProofs only [go_sem, ↓reduceIte, Nat.reduceEqDiff, Nat.reduceLT, Nat.reduceAdd, Nat.reduceMul, Nat.reduceLeDiff, Nat.le_refl, Int.natCast_zero, Int.toNat_natCast, Int.reduceToNat]
    ((repeat' (with_reducible refine And.intro ?_ ?_)); all_goals try (first | omega | (refine ⟨?_, ?_⟩ <;> omega) | (exact rfl)))
    (refine sCallX_io [1000000000, 14] rfl ?_; simp -dsimp -implicitDefEqProofs only [go_sem, ↓reduceIte, Nat.reduceEqDiff, Nat.reduceLT, Nat.reduceAdd, Nat.reduceMul, Nat.reduceLeDiff, Nat.le_refl, Int.natCast_zero, Int.toNat_natCast, Int.reduceToNat]; refine sCallMX_one (qp _ _) ?_; simp -dsimp -implicitDefEqProofs only [go_sem, ↓reduceIte, Nat.reduceEqDiff, Nat.reduceLT, Nat.reduceAdd, Nat.reduceMul, Nat.reduceLeDiff, Nat.le_refl, Int.natCast_zero, Int.toNat_natCast, Int.reduceToNat])
    ((repeat' (with_reducible refine And.intro ?_ ?_)); all_goals try (first | omega | (refine ⟨?_, ?_⟩ <;> omega) | (exact rfl)))
    all_goals first
      | (refine hk.back 6000 0 0 90 0 _ _ _ u (by decide) rfl rfl rfl (hk.go ?_)
         simp -dsimp -implicitDefEqProofs only [go_sem, ↓reduceIte, Nat.reduceEqDiff, Nat.reduceLT, Nat.reduceAdd, Nat.reduceMul, Nat.reduceLeDiff, Nat.le_refl, Int.natCast_zero, Int.toNat_natCast, Int.reduceToNat]
         ((repeat' (with_reducible refine And.intro ?_ ?_)); all_goals try (first | omega | (refine ⟨?_, ?_⟩ <;> omega) | (exact rfl)))
         all_goals first | (refine ⟨_, .inl rfl, ?_⟩; simp [eIs]; done) | (simp; done) | trace_state)
      | trace_state
  | false =>
    rw [h0, if_neg (by simp)] at hR
    cases h1 : (n.1 == 1) with
    | true =>
      rw [h1, if_pos rfl] at hR
      subst hR
      refine sCallT_ioU 6000 0 ⟨1, false⟩ _ (by decide) rfl [1000000000] ?_
      simp -dsimp -implicitDefEqProofs only [go_sem, ↓reduceIte, Nat.reduceEqDiff, Nat.reduceLT, Nat.reduceAdd, Nat.reduceMul, Nat.reduceLeDiff, Nat.le_refl, Int.natCast_zero, Int.toNat_natCast, Int.reduceToNat]
      refine sCallM_one (q30 _) ?_
      have tT := tk eIs T T.length (Nat.le_refl _)
      simp -dsimp -implicitDefEqProofs only [go_sem, ↓reduceIte, Nat.reduceEqDiff, Nat.reduceLT, Nat.reduceAdd, Nat.reduceMul, Nat.reduceLeDiff, Nat.le_refl, Int.natCast_zero, Int.toNat_natCast, Int.reduceToNat, h0, h1]
      refine .inr ⟨by omega, _, .inl rfl, ?_⟩
      rw [List.take_of_length_le (by simp)]
      simp [eIs]
    | false =>
      rw [h1, if_neg (by simp)] at hR
      cases h2 : (n.1 == 2) with
      | true =>
        rw [h2, if_pos rfl] at hR
        refine sCallT_ioU 6000 0 ⟨1, false⟩ _ (by decide) rfl [1000000000] ?_
        simp -dsimp -implicitDefEqProofs only [go_sem, ↓reduceIte, Nat.reduceEqDiff, Nat.reduceLT, Nat.reduceAdd, Nat.reduceMul, Nat.reduceLeDiff, Nat.le_refl, Int.natCast_zero, Int.toNat_natCast, Int.reduceToNat]
        refine sCallM_one (q30 _) ?_
        simp -dsimp -implicitDefEqProofs only [go_sem, ↓reduceIte, Nat.reduceEqDiff, Nat.reduceLT, Nat.reduceAdd, Nat.reduceMul, Nat.reduceLeDiff, Nat.le_refl, Int.natCast_zero, Int.toNat_natCast, Int.reduceToNat, h0, h1, h2]
        refine Later.lp [0] [26, 28, 35, 36] [6000, 1000000000] (fun x : Nat × List (List Int) × Src => SrcOk x.2.2 ∧ 1 ≤ x.2.1.length ∧ x.2.1.length ≤ 11 ∧ x.2.1.length + x.1 = 12 ∧ padF bs x.1 x.2.1 x.2.2 = RR) (fun x => [(3, .ref 6000 0 0 x.2.1.length)])
          (fun x => [(6000, .row 0 ⟨1, false⟩ false (x.2.1.map eIs)), (1000000000, srcB v bs x.2.2)]) (fun x => x.1) (12 - T.length, T, n.2) ⟨a, t1, by simp only; omega, by simp only; omega, hR⟩ ?_ rfl (fun x hx => ?_)
        · simp -dsimp -implicitDefEqProofs only [go_sem, ↓reduceIte, Nat.reduceEqDiff, Nat.reduceLT, Nat.reduceAdd, Nat.reduceMul, Nat.reduceLeDiff, Nat.le_refl, Int.natCast_zero, Int.toNat_natCast, Int.reduceToNat]
          ((repeat' (with_reducible refine And.intro ?_ ?_)); all_goals try (first | omega | (refine ⟨?_, ?_⟩ <;> omega) | (exact rfl)))
        · obtain ⟨k, t, s⟩ := x
          obtain ⟨x1, x2, x3, x4, x5⟩ := hx
          simp only at x1 x2 x3 x4 x5 ⊢
          obtain ⟨k, rfl⟩ : ∃ k', k = k' + 1 := ⟨k - 1, by omega⟩
          simp only [padF] at x5
          have q2 := fun v => c_l01Next v bs 2 s x1 hl
          have b := nx_ok bs 2 x1
          have b3 := b.2.2.1 (by omega)
          generalize nx bs 2 s = n2 at *
          have tt := tk eIs t t.length (Nat.le_refl _)
          have e2 := mapS eIs t (t.getD 0 [])
          have g0 : (t.map eIs)[0]? = some (eIs (t.getD 0 [])) := by
            cases t with
            | nil => simp at x2
            | cons r t => simp
          simp -dsimp -implicitDefEqProofs only [pick_nil, pick_cons, look_nil, look_cons, dropB_nil, dropB_cons, inD_nil, inD_cons, inE_nil, inE_cons, or_t_l, or_f_l, Nat.reduceBEq, Nat.reduceDiv, Nat.reduceAdd, beq_self_eq_true, Bool.false_eq_true, Bool.or_false, ↓reduceIte, Nat.reduceEqDiff, List.cons_append, List.nil_append]
          simp -dsimp -implicitDefEqProofs only [go_sem, ↓reduceIte, Nat.reduceEqDiff, Nat.reduceLT, Nat.reduceAdd, Nat.reduceMul, Nat.reduceLeDiff, Nat.le_refl, Int.natCast_zero, Int.toNat_natCast, Int.reduceToNat]
          (refine sCallT_io [1000000000] ?_; simp -dsimp -implicitDefEqProofs only [go_sem, ↓reduceIte, Nat.reduceEqDiff, Nat.reduceLT, Nat.reduceAdd, Nat.reduceMul, Nat.reduceLeDiff, Nat.le_refl, Int.natCast_zero, Int.toNat_natCast, Int.reduceToNat]; refine sCallM_one (q2 _) ?_; simp -dsimp -implicitDefEqProofs only [go_sem, ↓reduceIte, Nat.reduceEqDiff, Nat.reduceLT, Nat.reduceAdd, Nat.reduceMul, Nat.reduceLeDiff, Nat.le_refl, Int.natCast_zero, Int.toNat_natCast, Int.reduceToNat])
          ((repeat' (with_reducible refine And.intro ?_ ?_)); all_goals try (first | omega | (refine ⟨?_, ?_⟩ <;> omega) | (exact rfl)))
          cases hc : decide ((t.length : Int) < 10 + n2.1) with
          | true =>
            have hlt := of_decide_eq_true hc
            rw [hc, if_pos rfl] at x5
            simp -dsimp -implicitDefEqProofs only [go_sem, ↓reduceIte, Nat.reduceEqDiff, Nat.reduceLT, Nat.reduceAdd, Nat.reduceMul, Nat.reduceLeDiff, Nat.le_refl, Int.natCast_zero, Int.toNat_natCast, Int.reduceToNat, hc, g0]
            refine ⟨⟨by omega, by omega⟩, .inr ⟨by omega, (k, t ++ [t.getD 0 []], n2.2), ⟨b.2.2.2, by simp, by simp; omega, by simp; omega, x5⟩, by simp, ?_⟩⟩
            simp -dsimp -implicitDefEqProofs only [go_sem, ↓reduceIte, Nat.reduceEqDiff, Nat.reduceLT, Nat.reduceAdd, Nat.reduceMul, Nat.reduceLeDiff, Nat.le_refl, Int.natCast_zero, Int.toNat_natCast, Int.reduceToNat, tt]
            ((repeat' (with_reducible refine And.intro ?_ ?_)); all_goals try (first | omega | (refine ⟨?_, ?_⟩ <;> omega) | (exact rfl)))
            all_goals first | (simp; done) | trace_state
          | false =>
            rw [hc, if_neg (by simp)] at x5
            subst x5
            simp -dsimp -implicitDefEqProofs only [go_sem, ↓reduceIte, Nat.reduceEqDiff, Nat.reduceLT, Nat.reduceAdd, Nat.reduceMul, Nat.reduceLeDiff, Nat.le_refl, Int.natCast_zero, Int.toNat_natCast, Int.reduceToNat, hc, tt]
            ((repeat' (with_reducible refine And.intro ?_ ?_)); all_goals try (first | omega | (refine ⟨?_, ?_⟩ <;> omega) | (exact rfl)))
            all_goals first | (exact ⟨_, .inl rfl, rfl⟩) | trace_state
      | false =>
        rw [h2, if_neg (by simp)] at hR
        cases h3 : (n.1 == 3) with
        | true =>
          rw [h3, if_pos rfl] at hR
          subst hR
          have q2 := fun v => c_l01Next v bs 2 n.2 a hl
          have b := nx_ok bs 2 a
          have b3 := b.2.2.1 (by omega)
          generalize nx bs 2 n.2 = n2 at *
          (refine sCallT_io [1000000000] ?_; simp -dsimp -implicitDefEqProofs only [go_sem, ↓reduceIte, Nat.reduceEqDiff, Nat.reduceLT, Nat.reduceAdd, Nat.reduceMul, Nat.reduceLeDiff, Nat.le_refl, Int.natCast_zero, Int.toNat_natCast, Int.reduceToNat]; refine sCallM_one (q30 _) ?_; simp -dsimp -implicitDefEqProofs only [go_sem, ↓reduceIte, Nat.reduceEqDiff, Nat.reduceLT, Nat.reduceAdd, Nat.reduceMul, Nat.reduceLeDiff, Nat.le_refl, Int.natCast_zero, Int.toNat_natCast, Int.reduceToNat])
          simp -dsimp -implicitDefEqProofs only [go_sem, ↓reduceIte, Nat.reduceEqDiff, Nat.reduceLT, Nat.reduceAdd, Nat.reduceMul, Nat.reduceLeDiff, Nat.le_refl, Int.natCast_zero, Int.toNat_natCast, Int.reduceToNat, h0, h1, h2, h3]
          ((repeat' (with_reducible refine And.intro ?_ ?_)); all_goals try (first | omega | (refine ⟨?_, ?_⟩ <;> omega) | (exact rfl)))
          (refine sCallT_io [1000000000] ?_; simp -dsimp -implicitDefEqProofs only [go_sem, ↓reduceIte, Nat.reduceEqDiff, Nat.reduceLT, Nat.reduceAdd, Nat.reduceMul, Nat.reduceLeDiff, Nat.le_refl, Int.natCast_zero, Int.toNat_natCast, Int.reduceToNat]; refine sCallM_one (q2 _) ?_; simp -dsimp -implicitDefEqProofs only [go_sem, ↓reduceIte, Nat.reduceEqDiff, Nat.reduceLT, Nat.reduceAdd, Nat.reduceMul, Nat.reduceLeDiff, Nat.le_refl, Int.natCast_zero, Int.toNat_natCast, Int.reduceToNat])
          ((repeat' (with_reducible refine And.intro ?_ ?_)); all_goals try (first | omega | (refine ⟨?_, ?_⟩ <;> omega) | (exact rfl)))
          all_goals first | (refine ⟨_, .inl rfl, ?_⟩; simp [eIs]; done) | (simp; done) | trace_state
        | false =>
          rw [h3, if_neg (by simp)] at hR
          cases h4 : (n.1 == 4) with
          | true =>
            rw [h4, if_pos rfl] at hR
            subst hR
            (refine sCallT_io [1000000000] ?_; simp -dsimp -implicitDefEqProofs only [go_sem, ↓reduceIte, Nat.reduceEqDiff, Nat.reduceLT, Nat.reduceAdd, Nat.reduceMul, Nat.reduceLeDiff, Nat.le_refl, Int.natCast_zero, Int.toNat_natCast, Int.reduceToNat]; refine sCallM_one (q30 _) ?_; simp -dsimp -implicitDefEqProofs only [go_sem, ↓reduceIte, Nat.reduceEqDiff, Nat.reduceLT, Nat.reduceAdd, Nat.reduceMul, Nat.reduceLeDiff, Nat.le_refl, Int.natCast_zero, Int.toNat_natCast, Int.reduceToNat])
            simp -dsimp -implicitDefEqProofs only [go_sem, ↓reduceIte, Nat.reduceEqDiff, Nat.reduceLT, Nat.reduceAdd, Nat.reduceMul, Nat.reduceLeDiff, Nat.le_refl, Int.natCast_zero, Int.toNat_natCast, Int.reduceToNat, h0, h1, h2, h3, h4]
            ((repeat' (with_reducible refine And.intro ?_ ?_)); all_goals try (first | omega | (refine ⟨?_, ?_⟩ <;> omega) | (exact rfl)))
            all_goals first | (exact ⟨_, .inr ⟨_, rfl⟩, rfl⟩) | trace_state
          | false =>
            rw [h4, if_neg (by simp)] at hR
            subst hR
            have tT := tk eIs T T.length (Nat.le_refl _)
            (refine sCallT_io [1000000000] ?_; simp -dsimp -implicitDefEqProofs only [go_sem, ↓reduceIte, Nat.reduceEqDiff, Nat.reduceLT, Nat.reduceAdd, Nat.reduceMul, Nat.reduceLeDiff, Nat.le_refl, Int.natCast_zero, Int.toNat_natCast, Int.reduceToNat]; refine sCallM_one (q30 _) ?_; simp -dsimp -implicitDefEqProofs only [go_sem, ↓reduceIte, Nat.reduceEqDiff, Nat.reduceLT, Nat.reduceAdd, Nat.reduceMul, Nat.reduceLeDiff, Nat.le_refl, Int.natCast_zero, Int.toNat_natCast, Int.reduceToNat])
            simp -dsimp -implicitDefEqProofs only [go_sem, ↓reduceIte, Nat.reduceEqDiff, Nat.reduceLT, Nat.reduceAdd, Nat.reduceMul, Nat.reduceLeDiff, Nat.le_refl, Int.natCast_zero, Int.toNat_natCast, Int.reduceToNat, h0, h1, h2, h3, h4]
            ((repeat' (with_reducible refine And.intro ?_ ?_)); all_goals try (first | omega | (refine ⟨?_, ?_⟩ <;> omega) | (exact rfl)))
            all_goals first | (refine ⟨_, .inl rfl, ?_⟩; simp [eIs]; done) | (rw [tT]; done) | (simp; done) | trace_state
end Go.Vc


/-
  Contracts of the helpers of laws that draw: lists alike, sums; the source that follows from a code.
-/
set_option linter.unusedVariables false
set_option linter.unusedSimpArgs false
set_option linter.unnecessarySimpa false
namespace Go.Vc
open Go.Proofs
set_option maxRecDepth 100000
theorem c_big (bs : List UInt8) (h : bs.length ≤ 9223372036854775807) : Fn Try.prog 4 [eYs bs] true (· = eB (decide ((bs.length : Int) > 4096))) := by
  refine Fn.of_vcN 6 [.tmp 2] Try.func4 rfl rfl rfl rfl rfl (of_decide_eq_true rfl) ?_
  simp -dsimp -implicitDefEqProofs only [go_sem, ↓reduceIte, Nat.reduceEqDiff, Nat.reduceLT, Nat.reduceAdd, Nat.reduceMul, Nat.reduceLeDiff, Nat.le_refl, Int.natCast_zero, Int.toNat_natCast, Int.reduceToNat]
  repeat' (with_reducible refine And.intro ?_ ?_)
  all_goals first | omega | (simp; done)
theorem c_likeInts (xs ys : List Int) (h : xs.length ≤ 9223372036854775807) : Fn Try.prog 11 [eIs xs, eIs ys] true (· = eB (decide (xs = ys))) := by
  refine Fn.of_vcN 26 [.tmp 4] Try.func11 rfl rfl rfl rfl rfl (of_decide_eq_true rfl) ?_
  simp -dsimp -implicitDefEqProofs only [go_sem, ↓reduceIte, Nat.reduceEqDiff, Nat.reduceLT, Nat.reduceAdd, Nat.reduceMul, Nat.reduceLeDiff, Nat.le_refl, Int.natCast_zero, Int.toNat_natCast, Int.reduceToNat]
  repeat' (refine Br.intro (fun _ => ?_) (fun _ => ?_) <;> try simp -dsimp -implicitDefEqProofs only [go_sem, ↓reduceIte, Nat.reduceEqDiff, Nat.reduceLT, Nat.reduceAdd, Nat.reduceMul, Nat.reduceLeDiff, Nat.le_refl, Int.natCast_zero, Int.toNat_natCast, Int.reduceToNat, *])
  · rw [decide_eq_false]; intro e; subst e; simp_all
  have h1 : xs.length = ys.length := by simp_all <;> omega
  refine Later.up [0, 1] [13] [] xs.length (fun i => xs.take i = ys.take i) (fun i => [(5, eI i)]) (fun _ => []) rfl ?_ rfl (fun i hi hI => ?_) (fun hI => ?_)
  · simp -dsimp -implicitDefEqProofs only [go_sem, ↓reduceIte, Nat.reduceEqDiff, Nat.reduceLT, Nat.reduceAdd, Nat.reduceMul, Nat.reduceLeDiff, Nat.le_refl, Int.natCast_zero, Int.toNat_natCast, Int.reduceToNat]
  · simp -dsimp -implicitDefEqProofs only [pick_nil, pick_cons, look_nil, look_cons, dropB_nil, dropB_cons, inD_nil, inD_cons, inE_nil, inE_cons, or_t_l, or_f_l, Nat.reduceBEq, Nat.reduceDiv, Nat.reduceAdd, beq_self_eq_true, Bool.false_eq_true, Bool.or_false, ↓reduceIte, Nat.reduceEqDiff, List.cons_append, List.nil_append]
    have hy : i < ys.length := by omega
    have no : xs[i] ≠ ys[i] → decide (xs = ys) = false := eq_no hi hy
    have yes : xs[i] = ys[i] → xs.take (i + 1) = ys.take (i + 1) := eq_yes hi hy hI
    simp -dsimp -implicitDefEqProofs only [go_sem, ↓reduceIte, Nat.reduceEqDiff, Nat.reduceLT, Nat.reduceAdd, Nat.reduceMul, Nat.reduceLeDiff, Nat.le_refl, Int.natCast_zero, Int.toNat_natCast, Int.reduceToNat, lt_len hi, get_some hi]
    refine Later.draw mixed rfl ?_
    simp -dsimp -implicitDefEqProofs only [go_sem, ↓reduceIte, Nat.reduceEqDiff, Nat.reduceLT, Nat.reduceAdd, Nat.reduceMul, Nat.reduceLeDiff, Nat.le_refl, Int.natCast_zero, Int.toNat_natCast, Int.reduceToNat, get_some hi, get_some hy]
    repeat' first
      | (refine Br.intro (fun _ => ?_) (fun _ => ?_) <;> try simp -dsimp -implicitDefEqProofs only [go_sem, ↓reduceIte, Nat.reduceEqDiff, Nat.reduceLT, Nat.reduceAdd, Nat.reduceMul, Nat.reduceLeDiff, Nat.le_refl, Int.natCast_zero, Int.toNat_natCast, Int.reduceToNat, *])
      | (with_reducible refine And.intro ?_ ?_)
      | fail
    all_goals first
      | omega
      | (refine ⟨?_, ?_⟩ <;> omega)
      | rfl
      | (simp; done)
      | (rw [no]; clear no yes; simp_all; done)
      | (refine yes ?_; clear no yes; simp_all; done)
  · simp -dsimp -implicitDefEqProofs only [pick_nil, pick_cons, look_nil, look_cons, dropB_nil, dropB_cons, inD_nil, inD_cons, inE_nil, inE_cons, or_t_l, or_f_l, Nat.reduceBEq, Nat.reduceDiv, Nat.reduceAdd, beq_self_eq_true, Bool.false_eq_true, Bool.or_false, ↓reduceIte, Nat.reduceEqDiff, List.cons_append, List.nil_append]
    simp -dsimp -implicitDefEqProofs only [go_sem, ↓reduceIte, Nat.reduceEqDiff, Nat.reduceLT, Nat.reduceAdd, Nat.reduceMul, Nat.reduceLeDiff, Nat.le_refl, Int.natCast_zero, Int.toNat_natCast, Int.reduceToNat, nlt_len]
    have h3 : xs = ys := by rw [← List.take_length (l := xs), hI, h1, List.take_length]
    simp [h3]
def seedAt (bs : List UInt8) : Nat → Int
  | 0 => 30011
  | i + 1 => (seedAt bs i * 67 + ((bs.getD i 0).toNat : Int)).tmod 2147483647
theorem seedAt_ok (bs : List UInt8) : ∀ i, 0 ≤ seedAt bs i ∧ seedAt bs i < 2147483647
  | 0 => by simp [seedAt]
  | i + 1 => by
    have h := seedAt_ok bs i
    exact tmod_in (by have := (bs.getD i 0).toNat_lt; omega) (by omega)
def src0 (bs : List UInt8) : Src := ⟨seedAt bs (min bs.length 64), 0⟩
theorem src0_ok (bs : List UInt8) : SrcOk (src0 bs) := seedAt_ok bs _
theorem seedAt_succ {bs : List UInt8} {i : Nat} (h : i < bs.length) : seedAt bs (i + 1) = (seedAt bs i * 67 + ((bs[i]).toNat : Int)).tmod 2147483647 := by
  rw [seedAt, List.getD_eq_getElem?_getD, List.getElem?_eq_getElem h]; rfl
end Go.Vc


/-
  Contracts of the helpers of laws that draw: lists alike, elements.
-/
set_option linter.unusedVariables false
set_option linter.unusedSimpArgs false
set_option linter.unnecessarySimpa false
namespace Go.Vc
open Go.Proofs
set_option maxRecDepth 100000
theorem c_likeIntsE (xs : List Int) (h : xs.length ≤ 9223372036854775807) : Fn Try.prog 11 [eIs xs, eIs xs] true (· = eB true) := by
  have := c_likeInts xs xs h
  simpa using this
theorem c_hasInt (xs : List Int) (x : Int) (h : xs.length ≤ 1048576) : Fn Try.prog 14 [eIs xs, eI x] true (· = eB (has xs x)) := by
  refine Fn.of_vcN 18 [.tmp 4] Try.func14 rfl rfl rfl rfl rfl (of_decide_eq_true rfl) ?_
  simp -dsimp -implicitDefEqProofs only [go_sem, ↓reduceIte, Nat.reduceEqDiff, Nat.reduceLT, Nat.reduceAdd, Nat.reduceMul, Nat.reduceLeDiff, Nat.le_refl, Int.natCast_zero, Int.toNat_natCast, Int.reduceToNat]
  refine Later.up [0, 1] [8] [] xs.length (fun i => (xs.take i).all (fun y => !(y == x))) (fun i => [(5, eI i)]) (fun _ => []) (by simp) ?_ rfl (fun i hi hI => ?_) (fun hI => ?_)
  · simp -dsimp -implicitDefEqProofs only [go_sem, ↓reduceIte, Nat.reduceEqDiff, Nat.reduceLT, Nat.reduceAdd, Nat.reduceMul, Nat.reduceLeDiff, Nat.le_refl, Int.natCast_zero, Int.toNat_natCast, Int.reduceToNat]
  · simp -dsimp -implicitDefEqProofs only [pick_nil, pick_cons, look_nil, look_cons, dropB_nil, dropB_cons, inD_nil, inD_cons, inE_nil, inE_cons, or_t_l, or_f_l, Nat.reduceBEq, Nat.reduceDiv, Nat.reduceAdd, beq_self_eq_true, Bool.false_eq_true, Bool.or_false, ↓reduceIte, Nat.reduceEqDiff, List.cons_append, List.nil_append]
    have gi := get_some hi
    have li := lt_len hi
    have no : (!(xs[i] == x)) = false → (xs.all fun y => !(y == x)) = false := fun h => by simp [has, all_no (p := fun y => !(y == x)) hi h]
    have yes : (!(xs[i] == x)) = true → ((xs.take (i + 1)).all (fun y => !(y == x))) = true := fun h => by rw [all_take _ _ _ hi, hI]; simpa using h
    simp -dsimp -implicitDefEqProofs only [go_sem, ↓reduceIte, Nat.reduceEqDiff, Nat.reduceLT, Nat.reduceAdd, Nat.reduceMul, Nat.reduceLeDiff, Nat.le_refl, Int.natCast_zero, Int.toNat_natCast, Int.reduceToNat, li, gi]
    repeat' first
      | (refine Br.intro (fun _ => ?_) (fun _ => ?_) <;> try simp -dsimp -implicitDefEqProofs only [go_sem, ↓reduceIte, Nat.reduceEqDiff, Nat.reduceLT, Nat.reduceAdd, Nat.reduceMul, Nat.reduceLeDiff, Nat.le_refl, Int.natCast_zero, Int.toNat_natCast, Int.reduceToNat, *])
      | (with_reducible refine And.intro ?_ ?_)
      | (refine Later.draw mixed rfl ?_; try simp -dsimp -implicitDefEqProofs only [go_sem, ↓reduceIte, Nat.reduceEqDiff, Nat.reduceLT, Nat.reduceAdd, Nat.reduceMul, Nat.reduceLeDiff, Nat.le_refl, Int.natCast_zero, Int.toNat_natCast, Int.reduceToNat, *])
    all_goals first
      | omega
      | (refine ⟨?_, ?_⟩ <;> omega)
      | (simp; done)
      | rfl
      | (rw [has, no (by rw [‹(xs[i] == x) = true›]; rfl)]; rfl) | (refine yes ?_; clear no yes; simp_all; done)
      | trace_state
  · simp -dsimp -implicitDefEqProofs only [pick_nil, pick_cons, look_nil, look_cons, dropB_nil, dropB_cons, inD_nil, inD_cons, inE_nil, inE_cons, or_t_l, or_f_l, Nat.reduceBEq, Nat.reduceDiv, Nat.reduceAdd, beq_self_eq_true, Bool.false_eq_true, Bool.or_false, ↓reduceIte, Nat.reduceEqDiff, List.cons_append, List.nil_append]
    simp -dsimp -implicitDefEqProofs only [go_sem, ↓reduceIte, Nat.reduceEqDiff, Nat.reduceLT, Nat.reduceAdd, Nat.reduceMul, Nat.reduceLeDiff, Nat.le_refl, Int.natCast_zero, Int.toNat_natCast, Int.reduceToNat, nlt_len]
    rw [List.take_length] at hI
    first
      | (simp_all [has]; done)
      | trace_state
end Go.Vc


/-
  Marks: the laws' helpers that write a result's memory.
-/
set_option linter.unusedVariables false
set_option linter.unusedSimpArgs false
set_option linter.unnecessarySimpa false
namespace Go.Vc
open Go.Proofs
set_option maxRecDepth 100000
end Go.Vc


/-
  Contracts of the register functions that make registers and lists.
-/
set_option linter.unusedVariables false
set_option linter.unusedSimpArgs false
set_option linter.unnecessarySimpa false
namespace Go.Vc
open Go.Proofs
set_option maxRecDepth 100000
def newReg (rows roles : List Int) : RegM := ⟨rows.map fun x => ⟨x, 0, -1⟩, roles⟩
def newRegister (rows roles : List Int) : RegM × Int := if isReg (newReg rows roles) then (newReg rows roles, 0) else (⟨[], []⟩, 2)
theorem c_sNewRegister (rows roles : List Int) (h1 : rows.length ≤ 1048576) (h2 : roles.length ≤ 1048576) : Fn Try.prog 47 [eIs rows, eIs roles] true (· = .tup [eReg (newRegister rows roles).1, eI (newRegister rows roles).2]) := by
  refine Fn.of_vcN 33 [.cell 4 27, .tmp 5] Try.func47 rfl rfl rfl rfl rfl (of_decide_eq_true rfl) ?_
  simp -dsimp -implicitDefEqProofs only [go_sem, ↓reduceIte, Nat.reduceEqDiff, Nat.reduceLT, Nat.reduceAdd, Nat.reduceMul, Nat.reduceLeDiff, Nat.le_refl, Int.natCast_zero, Int.toNat_natCast, Int.reduceToNat]
  repeat' (with_reducible refine And.intro ?_ ?_)
  all_goals try omega
  refine Later.up [0, 1, 4] [12, 22, 23] [9] rows.length (fun _ => True) (fun i => [(7, eI i), (6, .ref 9 i 0 i)]) (fun i => [(9, .row i ⟨3, true⟩ true (((newReg rows roles).tags.take i).map eTag))]) trivial ?_ rfl (fun i hi _ => ?_) (fun _ => ?_)
  · simp -dsimp -implicitDefEqProofs only [go_sem, ↓reduceIte, Nat.reduceEqDiff, Nat.reduceLT, Nat.reduceAdd, Nat.reduceMul, Nat.reduceLeDiff, Nat.le_refl, Int.natCast_zero, Int.toNat_natCast, Int.reduceToNat]
    trace_state
  · simp -dsimp -implicitDefEqProofs only [pick_nil, pick_cons, look_nil, look_cons, dropB_nil, dropB_cons, inD_nil, inD_cons, inE_nil, inE_cons, or_t_l, or_f_l, Nat.reduceBEq, Nat.reduceDiv, Nat.reduceAdd, beq_self_eq_true, Bool.false_eq_true, Bool.or_false, ↓reduceIte, Nat.reduceEqDiff, List.cons_append, List.nil_append]
    have hi' : i < (newReg rows roles).tags.length := by simpa [newReg] using hi
    have g0 := take_map_snoc eTag hi'
    have g1 : (newReg rows roles).tags[i] = ⟨rows[i], 0, -1⟩ := by simp [newReg]
    rw [g1] at g0
    simp -dsimp -implicitDefEqProofs only [go_sem, ↓reduceIte, Nat.reduceEqDiff, Nat.reduceLT, Nat.reduceAdd, Nat.reduceMul, Nat.reduceLeDiff, Nat.le_refl, Int.natCast_zero, Int.toNat_natCast, Int.reduceToNat, lt_len hi, get_some hi, g0, min_lt hi']
    repeat' (with_reducible refine And.intro ?_ ?_)
    all_goals first | omega | (refine ⟨?_, ?_⟩ <;> omega) | (simp; done) | (simp; omega) | trace_state
  · have hl : (newReg rows roles).tags.length = rows.length := by simp [newReg]
    have ht : ((newReg rows roles).tags.map eTag).take rows.length = (newReg rows roles).tags.map eTag := by rw [← hl, take_map_len]
    simp -dsimp -implicitDefEqProofs only [pick_nil, pick_cons, look_nil, look_cons, dropB_nil, dropB_cons, inD_nil, inD_cons, inE_nil, inE_cons, or_t_l, or_f_l, Nat.reduceBEq, Nat.reduceDiv, Nat.reduceAdd, beq_self_eq_true, Bool.false_eq_true, Bool.or_false, ↓reduceIte, Nat.reduceEqDiff, List.cons_append, List.nil_append]
    simp -dsimp -implicitDefEqProofs only [go_sem, ↓reduceIte, Nat.reduceEqDiff, Nat.reduceLT, Nat.reduceAdd, Nat.reduceMul, Nat.reduceLeDiff, Nat.le_refl, Int.natCast_zero, Int.toNat_natCast, Int.reduceToNat, nlt_len, ht]
    repeat' first
      | (refine Br.intro (fun _ => ?_) (fun _ => ?_) <;> try simp -dsimp -implicitDefEqProofs only [go_sem, ↓reduceIte, Nat.reduceEqDiff, Nat.reduceLT, Nat.reduceAdd, Nat.reduceMul, Nat.reduceLeDiff, Nat.le_refl, Int.natCast_zero, Int.toNat_natCast, Int.reduceToNat, *])
      | (with_reducible refine And.intro ?_ ?_)
      | (refine sCallT_one (c_l01Own _ h2) ?_; try simp -dsimp -implicitDefEqProofs only [go_sem, ↓reduceIte, Nat.reduceEqDiff, Nat.reduceLT, Nat.reduceAdd, Nat.reduceMul, Nat.reduceLeDiff, Nat.le_refl, Int.natCast_zero, Int.toNat_natCast, Int.reduceToNat, *])
      | (refine sCallT_one (c_sIsRegister (newReg rows roles)) ?_; try simp -dsimp -implicitDefEqProofs only [go_sem, ↓reduceIte, Nat.reduceEqDiff, Nat.reduceLT, Nat.reduceAdd, Nat.reduceMul, Nat.reduceLeDiff, Nat.le_refl, Int.natCast_zero, Int.toNat_natCast, Int.reduceToNat, *])
    all_goals first
      | omega | (refine ⟨?_, ?_⟩ <;> omega) | (simp; done) | (simp; omega)
      | (simp_all [newRegister, newReg]; done)
      | trace_state
end Go.Vc


/-
  Contracts: the tags that a person has.
-/
set_option linter.unusedVariables false
set_option linter.unusedSimpArgs false
set_option linter.unnecessarySimpa false
namespace Go.Vc
open Go.Proofs
set_option maxRecDepth 100000
theorem c_l30Person (r : RegM) (p : Int) (h : r.roles.length ≤ 1048576) : Fn Try.prog 23 [eReg r, eI p] true (· = eB (isIn p 0 (r.roles.length - 1))) := by
  refine Fn.of_vcN 11 [.tmp 4] Try.func23 rfl rfl rfl rfl rfl (of_decide_eq_true rfl) ?_
  simp -dsimp -implicitDefEqProofs only [go_sem, ↓reduceIte, Nat.reduceEqDiff, Nat.reduceLT, Nat.reduceAdd, Nat.reduceMul, Nat.reduceLeDiff, Nat.le_refl, Int.natCast_zero, Int.toNat_natCast, Int.reduceToNat]
  repeat' first
    | (with_reducible refine And.intro ?_ ?_)
    | (refine sCallT_one (c_l01In _ _ _) ?_; try simp -dsimp -implicitDefEqProofs only [go_sem, ↓reduceIte, Nat.reduceEqDiff, Nat.reduceLT, Nat.reduceAdd, Nat.reduceMul, Nat.reduceLeDiff, Nat.le_refl, Int.natCast_zero, Int.toNat_natCast, Int.reduceToNat, *])
  all_goals first | omega | (refine ⟨?_, ?_⟩ <;> omega) | rfl | (simp; done) | (simp_all []; done) | (simp_all []; omega) | (simp_all []; split <;> simp_all <;> omega) | trace_state
def isW (t : TagM) (p : Int) : Bool := t.state == 1 && t.person == p
def tw (ts : List TagM) (p : Int) (i : Nat) : List Int := List.map (fun j : Nat => (j : Int)) ((List.range i).filter fun j => match ts[j]? with | some t => isW t p | none => false)
theorem tw_succ (ts : List TagM) (p : Int) (i : Nat) (h : i < ts.length) : tw ts p (i + 1) = if isW ts[i] p then tw ts p i ++ [(i : Int)] else tw ts p i := by
  simp only [tw, List.range_succ, List.filter_append, List.map_append]
  rw [List.filter_cons, List.getElem?_eq_getElem h]
  simp only []
  split <;> simp
theorem tw_len (ts : List TagM) (p : Int) (i : Nat) : (tw ts p i).length ≤ i := by
  rw [tw, List.length_map]
  exact Nat.le_trans (List.length_filter_le _ _) (by simp)
def tagsWith (r : RegM) (p : Int) : List Int × Int := if isReg r then (if isIn p 0 (r.roles.length - 1) then (tw r.tags p r.tags.length, 0) else ([], 2)) else ([], 1)
theorem c_l30With (r : RegM) (p : Int) (h1 : r.tags.length ≤ 1048576) (h2 : r.roles.length ≤ 1048576) : Fn Try.prog 24 [eReg r, eI p] true (· = eIs (tw r.tags p r.tags.length)) := by
  refine Fn.of_vcN 37 [.tmp 4] Try.func24 rfl rfl rfl rfl rfl (of_decide_eq_true rfl) ?_
  simp -dsimp -implicitDefEqProofs only [go_sem, ↓reduceIte, Nat.reduceEqDiff, Nat.reduceLT, Nat.reduceAdd, Nat.reduceMul, Nat.reduceLeDiff, Nat.le_refl, Int.natCast_zero, Int.toNat_natCast, Int.reduceToNat]
  repeat' (with_reducible refine And.intro ?_ ?_)
  all_goals try omega
  refine Later.up [1, 2] [11, 34, 35] [7] r.tags.length (fun _ => True) (fun i => [(6, eI i), (5, .ref 7 0 0 (tw r.tags p i).length)]) (fun i => [(7, .row 0 ⟨1, false⟩ true ((tw r.tags p i).map eI))]) trivial ?_ rfl (fun i hi _ => ?_) (fun _ => ?_)
  · simp -dsimp -implicitDefEqProofs only [go_sem, ↓reduceIte, Nat.reduceEqDiff, Nat.reduceLT, Nat.reduceAdd, Nat.reduceMul, Nat.reduceLeDiff, Nat.le_refl, Int.natCast_zero, Int.toNat_natCast, Int.reduceToNat]
    simp [tw]
  · have hl := tw_len r.tags p i
    have hs := tw_succ r.tags p i hi
    have hgi := get_some hi
    simp -dsimp -implicitDefEqProofs only [pick_nil, pick_cons, look_nil, look_cons, dropB_nil, dropB_cons, inD_nil, inD_cons, inE_nil, inE_cons, or_t_l, or_f_l, Nat.reduceBEq, Nat.reduceDiv, Nat.reduceAdd, beq_self_eq_true, Bool.false_eq_true, Bool.or_false, ↓reduceIte, Nat.reduceEqDiff, List.cons_append, List.nil_append]
    rw [hs]
    simp -dsimp -implicitDefEqProofs only [go_sem, ↓reduceIte, Nat.reduceEqDiff, Nat.reduceLT, Nat.reduceAdd, Nat.reduceMul, Nat.reduceLeDiff, Nat.le_refl, Int.natCast_zero, Int.toNat_natCast, Int.reduceToNat, lt_len hi, get_some hi]
    repeat' first
      | (refine Br.intro (fun _ => ?_) (fun _ => ?_) <;> try simp -dsimp -implicitDefEqProofs only [go_sem, ↓reduceIte, Nat.reduceEqDiff, Nat.reduceLT, Nat.reduceAdd, Nat.reduceMul, Nat.reduceLeDiff, Nat.le_refl, Int.natCast_zero, Int.toNat_natCast, Int.reduceToNat, *])
      | (with_reducible refine And.intro ?_ ?_)
    all_goals first | omega | (refine ⟨?_, ?_⟩ <;> omega) | rfl | (simp; done) | (simp_all [isW]; done) | (simp_all [isW]; omega) | (simp_all [isW]; split <;> simp_all <;> omega) | trace_state
  · have hl := tw_len r.tags p r.tags.length
    simp -dsimp -implicitDefEqProofs only [pick_nil, pick_cons, look_nil, look_cons, dropB_nil, dropB_cons, inD_nil, inD_cons, inE_nil, inE_cons, or_t_l, or_f_l, Nat.reduceBEq, Nat.reduceDiv, Nat.reduceAdd, beq_self_eq_true, Bool.false_eq_true, Bool.or_false, ↓reduceIte, Nat.reduceEqDiff, List.cons_append, List.nil_append]
    simp -dsimp -implicitDefEqProofs only [go_sem, ↓reduceIte, Nat.reduceEqDiff, Nat.reduceLT, Nat.reduceAdd, Nat.reduceMul, Nat.reduceLeDiff, Nat.le_refl, Int.natCast_zero, Int.toNat_natCast, Int.reduceToNat, nlt_len]
    repeat' (with_reducible refine And.intro ?_ ?_)
    all_goals first | omega | (refine ⟨?_, ?_⟩ <;> omega) | rfl | (simp; done) | (simp_all []; done) | (simp_all []; omega) | (simp_all []; split <;> simp_all <;> omega) | trace_state
theorem c_sTagsWith (r : RegM) (p : Int) (h1 : r.tags.length ≤ 1048576) (h2 : r.roles.length ≤ 1048576) : Fn Try.prog 7 [eReg r, eI p] true (· = .tup [eIs (tagsWith r p).1, eI (tagsWith r p).2]) := by
  refine Fn.of_vcN 16 [.tmp 4, .tmp 5] Try.func7 rfl rfl rfl rfl rfl (of_decide_eq_true rfl) ?_
  simp -dsimp -implicitDefEqProofs only [go_sem, ↓reduceIte, Nat.reduceEqDiff, Nat.reduceLT, Nat.reduceAdd, Nat.reduceMul, Nat.reduceLeDiff, Nat.le_refl, Int.natCast_zero, Int.toNat_natCast, Int.reduceToNat]
  repeat' first
    | (refine Br.intro (fun _ => ?_) (fun _ => ?_) <;> try simp -dsimp -implicitDefEqProofs only [go_sem, ↓reduceIte, Nat.reduceEqDiff, Nat.reduceLT, Nat.reduceAdd, Nat.reduceMul, Nat.reduceLeDiff, Nat.le_refl, Int.natCast_zero, Int.toNat_natCast, Int.reduceToNat, *])
    | (with_reducible refine And.intro ?_ ?_)
    | (refine sCallT_one (c_sIsRegister _) ?_; try simp -dsimp -implicitDefEqProofs only [go_sem, ↓reduceIte, Nat.reduceEqDiff, Nat.reduceLT, Nat.reduceAdd, Nat.reduceMul, Nat.reduceLeDiff, Nat.le_refl, Int.natCast_zero, Int.toNat_natCast, Int.reduceToNat, *])
    | (refine sCallT_one (c_l30Person _ _ h2) ?_; try simp -dsimp -implicitDefEqProofs only [go_sem, ↓reduceIte, Nat.reduceEqDiff, Nat.reduceLT, Nat.reduceAdd, Nat.reduceMul, Nat.reduceLeDiff, Nat.le_refl, Int.natCast_zero, Int.toNat_natCast, Int.reduceToNat, *])
    | (refine sCallT_one (c_l30With _ _ h1 h2) ?_; try simp -dsimp -implicitDefEqProofs only [go_sem, ↓reduceIte, Nat.reduceEqDiff, Nat.reduceLT, Nat.reduceAdd, Nat.reduceMul, Nat.reduceLeDiff, Nat.le_refl, Int.natCast_zero, Int.toNat_natCast, Int.reduceToNat, *])
  all_goals first | omega | (refine ⟨?_, ?_⟩ <;> omega) | rfl | (simp; done) | (simp_all [tagsWith]; done) | (simp_all [tagsWith]; omega) | (simp_all [tagsWith]; split <;> simp_all <;> omega) | trace_state
theorem c_iTagsWith (r : RegM) (p : Int) (h1 : r.tags.length ≤ 1048576) (h2 : r.roles.length ≤ 1048576) : Fn Try.prog 6 [eReg r, eI p] true (· = .tup [eIs (tagsWith r p).1, eI (tagsWith r p).2]) := by
  refine Fn.of_vcN 43 [.tmp 4, .tmp 5] Try.func6 rfl rfl rfl rfl rfl (of_decide_eq_true rfl) ?_
  simp -dsimp -implicitDefEqProofs only [go_sem, ↓reduceIte, Nat.reduceEqDiff, Nat.reduceLT, Nat.reduceAdd, Nat.reduceMul, Nat.reduceLeDiff, Nat.le_refl, Int.natCast_zero, Int.toNat_natCast, Int.reduceToNat]
  repeat' first
    | (refine Br.intro (fun _ => ?_) (fun _ => ?_) <;> try simp -dsimp -implicitDefEqProofs only [go_sem, ↓reduceIte, Nat.reduceEqDiff, Nat.reduceLT, Nat.reduceAdd, Nat.reduceMul, Nat.reduceLeDiff, Nat.le_refl, Int.natCast_zero, Int.toNat_natCast, Int.reduceToNat, *])
    | (with_reducible refine And.intro ?_ ?_)
    | (refine sCallT_one (c_iIsRegister _ h1 h2) ?_; try simp -dsimp -implicitDefEqProofs only [go_sem, ↓reduceIte, Nat.reduceEqDiff, Nat.reduceLT, Nat.reduceAdd, Nat.reduceMul, Nat.reduceLeDiff, Nat.le_refl, Int.natCast_zero, Int.toNat_natCast, Int.reduceToNat, *])
    | (refine sCallT_one (c_within _ _ _) ?_; try simp -dsimp -implicitDefEqProofs only [go_sem, ↓reduceIte, Nat.reduceEqDiff, Nat.reduceLT, Nat.reduceAdd, Nat.reduceMul, Nat.reduceLeDiff, Nat.le_refl, Int.natCast_zero, Int.toNat_natCast, Int.reduceToNat, *])
  all_goals try (first | omega | (refine ⟨?_, ?_⟩ <;> omega) | (simp_all [tagsWith]; done))
  refine Later.up [1, 21, 22] [8, 39, 40] [19] r.tags.length (fun _ => True) (fun i => [(23, eI i), (6, .ref 19 0 0 (tw r.tags p i).length)]) (fun i => [(19, .row 0 ⟨1, false⟩ true ((tw r.tags p i).map eI))]) trivial ?_ rfl (fun i hi _ => ?_) (fun _ => ?_)
  · simp -dsimp -implicitDefEqProofs only [go_sem, ↓reduceIte, Nat.reduceEqDiff, Nat.reduceLT, Nat.reduceAdd, Nat.reduceMul, Nat.reduceLeDiff, Nat.le_refl, Int.natCast_zero, Int.toNat_natCast, Int.reduceToNat]
    simp [tw]
  · have hl := tw_len r.tags p i
    have hs := tw_succ r.tags p i hi
    have hgi := get_some hi
    simp -dsimp -implicitDefEqProofs only [pick_nil, pick_cons, look_nil, look_cons, dropB_nil, dropB_cons, inD_nil, inD_cons, inE_nil, inE_cons, or_t_l, or_f_l, Nat.reduceBEq, Nat.reduceDiv, Nat.reduceAdd, beq_self_eq_true, Bool.false_eq_true, Bool.or_false, ↓reduceIte, Nat.reduceEqDiff, List.cons_append, List.nil_append]
    rw [hs]
    simp -dsimp -implicitDefEqProofs only [go_sem, ↓reduceIte, Nat.reduceEqDiff, Nat.reduceLT, Nat.reduceAdd, Nat.reduceMul, Nat.reduceLeDiff, Nat.le_refl, Int.natCast_zero, Int.toNat_natCast, Int.reduceToNat, lt_len hi, get_some hi]
    repeat' first
      | (refine Br.intro (fun _ => ?_) (fun _ => ?_) <;> try simp -dsimp -implicitDefEqProofs only [go_sem, ↓reduceIte, Nat.reduceEqDiff, Nat.reduceLT, Nat.reduceAdd, Nat.reduceMul, Nat.reduceLeDiff, Nat.le_refl, Int.natCast_zero, Int.toNat_natCast, Int.reduceToNat, *])
      | (with_reducible refine And.intro ?_ ?_)
    all_goals first | omega | (refine ⟨?_, ?_⟩ <;> omega) | rfl | (simp; done) | (simp_all [isW]; done) | (simp_all [isW]; omega) | (simp_all [isW]; split <;> simp_all <;> omega) | trace_state
  · have hl := tw_len r.tags p r.tags.length
    simp -dsimp -implicitDefEqProofs only [pick_nil, pick_cons, look_nil, look_cons, dropB_nil, dropB_cons, inD_nil, inD_cons, inE_nil, inE_cons, or_t_l, or_f_l, Nat.reduceBEq, Nat.reduceDiv, Nat.reduceAdd, beq_self_eq_true, Bool.false_eq_true, Bool.or_false, ↓reduceIte, Nat.reduceEqDiff, List.cons_append, List.nil_append]
    simp -dsimp -implicitDefEqProofs only [go_sem, ↓reduceIte, Nat.reduceEqDiff, Nat.reduceLT, Nat.reduceAdd, Nat.reduceMul, Nat.reduceLeDiff, Nat.le_refl, Int.natCast_zero, Int.toNat_natCast, Int.reduceToNat, nlt_len]
    repeat' (with_reducible refine And.intro ?_ ?_)
    all_goals first | omega | (refine ⟨?_, ?_⟩ <;> omega) | rfl | (simp; done) | (simp_all [tagsWith]; done) | (simp_all [tagsWith]; omega) | (simp_all [tagsWith]; split <;> simp_all <;> omega) | trace_state
end Go.Vc


/-
  Events of a register: when one is possible, and what it does.
-/
set_option linter.unusedVariables false
set_option linter.unusedSimpArgs false
set_option linter.unnecessarySimpa false
namespace Go.Vc
open Go.Proofs
set_option maxRecDepth 100000
def isEv (r : RegM) (e : EvM) : Bool := isEvent e r.tags.length r.roles.length
def roleOf (r : RegM) (e : EvM) : Int := r.roles.getD e.who.toNat 0
def tagOf (r : RegM) (e : EvM) : TagM := r.tags.getD e.tag.toNat ⟨0, 0, 0⟩
def before (k : Int) : Int := if k = 1 ∨ k = 2 then 1 else if k = 3 then 2 else 0
def canEv (r : RegM) (e : EvM) : Bool := decide (roleOf r e ≥ (if e.kind ≥ 3 then 2 else 1)) && (tagOf r e).state == before e.kind
def applyTag (x : TagM) (e : EvM) : TagM := if e.kind = 0 then ⟨x.row, 1, e.person⟩ else if e.kind = 2 then ⟨x.row, 2, x.person⟩ else if e.kind = 4 then ⟨x.row, 3, -1⟩ else ⟨x.row, 0, -1⟩
def applyEv (r : RegM) (e : EvM) : RegM := ⟨r.tags.set e.tag.toNat (applyTag (tagOf r e) e), r.roles⟩
theorem isEv_in {r : RegM} {e : EvM} (h : isEv r e = true) : (0 ≤ e.kind ∧ e.kind ≤ 4) ∧ (0 ≤ e.tag ∧ e.tag < r.tags.length) ∧ (0 ≤ e.who ∧ e.who < r.roles.length) := by
  simp [isEv, isEvent, isIn] at h; omega
theorem role_get {r : RegM} {e : EvM} (h : isEv r e = true) : r.roles[e.who.toNat]? = some (roleOf r e) := by
  have := isEv_in h
  have hl : e.who.toNat < r.roles.length := by omega
  rw [roleOf, List.getD_eq_getElem?_getD, List.getElem?_eq_getElem hl]; rfl
theorem tag_get {r : RegM} {e : EvM} (h : isEv r e = true) : r.tags[e.tag.toNat]? = some (tagOf r e) := by
  have := isEv_in h
  have hl : e.tag.toNat < r.tags.length := by omega
  rw [tagOf, List.getD_eq_getElem?_getD, List.getElem?_eq_getElem hl]; rfl
theorem c_l30Event (r : RegM) (e : EvM) (h1 : r.tags.length ≤ 1048576) (h2 : r.roles.length ≤ 1048576) : Fn Try.prog 58 [eReg r, eEv e] true (· = eB (isEv r e)) := by
  refine Fn.of_vcN 36 [.tmp 4] Try.func58 rfl rfl rfl rfl rfl (of_decide_eq_true rfl) ?_
  simp -dsimp -implicitDefEqProofs only [go_sem, ↓reduceIte, Nat.reduceEqDiff, Nat.reduceLT, Nat.reduceAdd, Nat.reduceMul, Nat.reduceLeDiff, Nat.le_refl, Int.natCast_zero, Int.toNat_natCast, Int.reduceToNat]
  repeat' first
    | (refine Br.intro (fun _ => ?_) (fun _ => ?_) <;> try simp -dsimp -implicitDefEqProofs only [go_sem, ↓reduceIte, Nat.reduceEqDiff, Nat.reduceLT, Nat.reduceAdd, Nat.reduceMul, Nat.reduceLeDiff, Nat.le_refl, Int.natCast_zero, Int.toNat_natCast, Int.reduceToNat, *])
    | (with_reducible refine And.intro ?_ ?_)
    | (refine sCallT_one (c_l01In _ _ _) ?_; try simp -dsimp -implicitDefEqProofs only [go_sem, ↓reduceIte, Nat.reduceEqDiff, Nat.reduceLT, Nat.reduceAdd, Nat.reduceMul, Nat.reduceLeDiff, Nat.le_refl, Int.natCast_zero, Int.toNat_natCast, Int.reduceToNat, *])
    | (refine sCallT_one (c_l30Person _ _ h2) ?_; try simp -dsimp -implicitDefEqProofs only [go_sem, ↓reduceIte, Nat.reduceEqDiff, Nat.reduceLT, Nat.reduceAdd, Nat.reduceMul, Nat.reduceLeDiff, Nat.le_refl, Int.natCast_zero, Int.toNat_natCast, Int.reduceToNat, *])
  all_goals first | omega | (refine ⟨?_, ?_⟩ <;> omega) | rfl | (simp; done) | (simp_all [isEv, isEvent]; done) | (simp_all [isEv, isEvent]; omega) | (simp_all [isEv, isEvent]; split <;> simp_all <;> omega) | trace_state
theorem c_l30Role (k : Int) : Fn Try.prog 59 [eI k] true (· = eI (if k ≥ 3 then 2 else 1)) := by
  refine Fn.of_vcN 5 [.tmp 2] Try.func59 rfl rfl rfl rfl rfl (of_decide_eq_true rfl) ?_
  simp -dsimp -implicitDefEqProofs only [go_sem, ↓reduceIte, Nat.reduceEqDiff, Nat.reduceLT, Nat.reduceAdd, Nat.reduceMul, Nat.reduceLeDiff, Nat.le_refl, Int.natCast_zero, Int.toNat_natCast, Int.reduceToNat]
  repeat' (refine Br.intro (fun _ => ?_) (fun _ => ?_) <;> try simp -dsimp -implicitDefEqProofs only [go_sem, ↓reduceIte, Nat.reduceEqDiff, Nat.reduceLT, Nat.reduceAdd, Nat.reduceMul, Nat.reduceLeDiff, Nat.le_refl, Int.natCast_zero, Int.toNat_natCast, Int.reduceToNat, *])
  all_goals first | omega | (refine ⟨?_, ?_⟩ <;> omega) | rfl | (simp; done) | (simp_all []; done) | (simp_all []; omega) | (simp_all []; split <;> simp_all <;> omega) | trace_state
theorem c_l30Before (k : Int) (hk : 0 ≤ k ∧ k ≤ 4) : Fn Try.prog 60 [eI k] true (· = eI (before k)) := by
  refine Fn.of_vcN 7 [.tmp 2] Try.func60 rfl rfl rfl rfl rfl (of_decide_eq_true rfl) ?_
  have h : k = 0 ∨ k = 1 ∨ k = 2 ∨ k = 3 ∨ k = 4 := by omega
  rcases h with rfl | rfl | rfl | rfl | rfl
  all_goals
    simp -dsimp -implicitDefEqProofs only [go_sem, ↓reduceIte, Nat.reduceEqDiff, Nat.reduceLT, Nat.reduceAdd, Nat.reduceMul, Nat.reduceLeDiff, Nat.le_refl, Int.natCast_zero, Int.toNat_natCast, Int.reduceToNat]
    simp [before]
theorem c_l30Can (r : RegM) (e : EvM) (h : isEv r e = true) : Fn Try.prog 50 [eReg r, eEv e] true (· = eB (canEv r e)) := by
  refine Fn.of_vcN 28 [.tmp 4] Try.func50 rfl rfl rfl rfl rfl (of_decide_eq_true rfl) ?_
  have h1 := isEv_in h
  have h2 := role_get h
  have h3 := tag_get h
  simp -dsimp -implicitDefEqProofs only [go_sem, ↓reduceIte, Nat.reduceEqDiff, Nat.reduceLT, Nat.reduceAdd, Nat.reduceMul, Nat.reduceLeDiff, Nat.le_refl, Int.natCast_zero, Int.toNat_natCast, Int.reduceToNat]
  (refine Later.draw mixed rfl ?_; try simp -dsimp -implicitDefEqProofs only [go_sem, ↓reduceIte, Nat.reduceEqDiff, Nat.reduceLT, Nat.reduceAdd, Nat.reduceMul, Nat.reduceLeDiff, Nat.le_refl, Int.natCast_zero, Int.toNat_natCast, Int.reduceToNat, *])
  repeat' first
    | (refine Br.intro (fun _ => ?_) (fun _ => ?_) <;> try simp -dsimp -implicitDefEqProofs only [go_sem, ↓reduceIte, Nat.reduceEqDiff, Nat.reduceLT, Nat.reduceAdd, Nat.reduceMul, Nat.reduceLeDiff, Nat.le_refl, Int.natCast_zero, Int.toNat_natCast, Int.reduceToNat, *])
    | (with_reducible refine And.intro ?_ ?_)
    | (refine sCallX_one (c_l30Role _) ?_; try simp -dsimp -implicitDefEqProofs only [go_sem, ↓reduceIte, Nat.reduceEqDiff, Nat.reduceLT, Nat.reduceAdd, Nat.reduceMul, Nat.reduceLeDiff, Nat.le_refl, Int.natCast_zero, Int.toNat_natCast, Int.reduceToNat, *])
    | (refine sCallX_one (c_l30Before _ (by omega)) ?_; try simp -dsimp -implicitDefEqProofs only [go_sem, ↓reduceIte, Nat.reduceEqDiff, Nat.reduceLT, Nat.reduceAdd, Nat.reduceMul, Nat.reduceLeDiff, Nat.le_refl, Int.natCast_zero, Int.toNat_natCast, Int.reduceToNat, *])
  all_goals first | omega | (refine ⟨?_, ?_⟩ <;> omega) | rfl | (simp; done) | (simp_all [canEv]; done) | (simp_all [canEv]; omega) | (simp_all [canEv]; split <;> simp_all <;> omega) | trace_state
theorem c_l30Code (r : RegM) (e : EvM) (h1 : r.tags.length ≤ 1048576) (h2 : r.roles.length ≤ 1048576) : Fn Try.prog 49 [eReg r, eEv e] true (· = eI (if isReg r then (if isEv r e then 0 else 2) else 1)) := by
  refine Fn.of_vcN 12 [.tmp 4] Try.func49 rfl rfl rfl rfl rfl (of_decide_eq_true rfl) ?_
  simp -dsimp -implicitDefEqProofs only [go_sem, ↓reduceIte, Nat.reduceEqDiff, Nat.reduceLT, Nat.reduceAdd, Nat.reduceMul, Nat.reduceLeDiff, Nat.le_refl, Int.natCast_zero, Int.toNat_natCast, Int.reduceToNat]
  repeat' first
    | (refine Br.intro (fun _ => ?_) (fun _ => ?_) <;> try simp -dsimp -implicitDefEqProofs only [go_sem, ↓reduceIte, Nat.reduceEqDiff, Nat.reduceLT, Nat.reduceAdd, Nat.reduceMul, Nat.reduceLeDiff, Nat.le_refl, Int.natCast_zero, Int.toNat_natCast, Int.reduceToNat, *])
    | (with_reducible refine And.intro ?_ ?_)
    | (refine sCallT_one (c_sIsRegister _) ?_; try simp -dsimp -implicitDefEqProofs only [go_sem, ↓reduceIte, Nat.reduceEqDiff, Nat.reduceLT, Nat.reduceAdd, Nat.reduceMul, Nat.reduceLeDiff, Nat.le_refl, Int.natCast_zero, Int.toNat_natCast, Int.reduceToNat, *])
    | (refine sCallT_one (c_l30Event _ _ h1 h2) ?_; try simp -dsimp -implicitDefEqProofs only [go_sem, ↓reduceIte, Nat.reduceEqDiff, Nat.reduceLT, Nat.reduceAdd, Nat.reduceMul, Nat.reduceLeDiff, Nat.le_refl, Int.natCast_zero, Int.toNat_natCast, Int.reduceToNat, *])
  all_goals first | omega | (refine ⟨?_, ?_⟩ <;> omega) | rfl | (simp; done) | (simp_all []; done) | (simp_all []; omega) | (simp_all []; split <;> simp_all <;> omega) | trace_state
theorem c_l30Apply (r : RegM) (e : EvM) (h : isEv r e = true) (h1 : r.tags.length ≤ 1048576) (h2 : r.roles.length ≤ 1048576) : Fn Try.prog 51 [eReg r, eEv e] true (· = eReg (applyEv r e)) := by
  refine Fn.of_vcN 50 [.cell 4 27] Try.func51 rfl rfl rfl rfl rfl (of_decide_eq_true rfl) ?_
  have h3 := isEv_in h
  have h4 := tag_get h
  simp -dsimp -implicitDefEqProofs only [go_sem, ↓reduceIte, Nat.reduceEqDiff, Nat.reduceLT, Nat.reduceAdd, Nat.reduceMul, Nat.reduceLeDiff, Nat.le_refl, Int.natCast_zero, Int.toNat_natCast, Int.reduceToNat, h4]
  repeat' first
    | (refine Br.intro (fun _ => ?_) (fun _ => ?_) <;> try simp -dsimp -implicitDefEqProofs only [go_sem, ↓reduceIte, Nat.reduceEqDiff, Nat.reduceLT, Nat.reduceAdd, Nat.reduceMul, Nat.reduceLeDiff, Nat.le_refl, Int.natCast_zero, Int.toNat_natCast, Int.reduceToNat, *])
    | (with_reducible refine And.intro ?_ ?_)
    | (refine sCallT_one (c_l01Own _ h2) ?_; try simp -dsimp -implicitDefEqProofs only [go_sem, ↓reduceIte, Nat.reduceEqDiff, Nat.reduceLT, Nat.reduceAdd, Nat.reduceMul, Nat.reduceLeDiff, Nat.le_refl, Int.natCast_zero, Int.toNat_natCast, Int.reduceToNat, *])
  all_goals first | omega | (refine ⟨?_, ?_⟩ <;> omega) | rfl | (simp; done) | (simp_all [applyEv, applyTag, List.map_set]; done) | (simp_all [applyEv, applyTag, List.map_set]; omega) | (simp_all [applyEv, applyTag, List.map_set]; split <;> simp_all <;> omega) | trace_state
end Go.Vc


/-
  Running events over a register; the functions that tell of registers.
-/
set_option linter.unusedVariables false
set_option linter.unusedSimpArgs false
set_option linter.unnecessarySimpa false
namespace Go.Vc
open Go.Proofs
set_option maxRecDepth 100000
def evCode (r : RegM) (e : EvM) : Int := if isReg r then (if isEv r e then 0 else 2) else 1
def possible (r : RegM) (e : EvM) : Bool × Int := if evCode r e = 0 then (canEv r e, 0) else (false, evCode r e)
theorem evCode_zero {r : RegM} {e : EvM} (h : evCode r e = 0) : isReg r = true ∧ isEv r e = true := by
  unfold evCode at h; split at h
  · split at h
    · exact ⟨‹_›, ‹_›⟩
    · omega
  · omega
end Go.Vc


/-
  Events run one behind the other.
-/
set_option linter.unusedVariables false
set_option linter.unusedSimpArgs false
set_option linter.unnecessarySimpa false
namespace Go.Vc
open Go.Proofs
set_option maxRecDepth 100000
end Go.Vc


/-
  Events run by the reference; one event applied; tags and states counted.
-/
set_option linter.unusedVariables false
set_option linter.unusedSimpArgs false
set_option linter.unnecessarySimpa false
namespace Go.Vc
open Go.Proofs
set_option maxRecDepth 100000
def applyEvent (r : RegM) (e : EvM) : RegM × Int := if evCode r e = 0 then (if canEv r e then (applyEv r e, 0) else (⟨[], []⟩, 5)) else (⟨[], []⟩, evCode r e)
theorem c_sApplyEvent (r : RegM) (e : EvM) (h1 : r.tags.length ≤ 1048576) (h2 : r.roles.length ≤ 1048576) : Fn Try.prog 37 [eReg r, eEv e] true (· = .tup [eReg (applyEvent r e).1, eI (applyEvent r e).2]) := by
  refine Fn.of_vcN 25 [.cell 4 27, .tmp 5] Try.func37 rfl rfl rfl rfl rfl (of_decide_eq_true rfl) ?_
  simp -dsimp -implicitDefEqProofs only [go_sem, ↓reduceIte, Nat.reduceEqDiff, Nat.reduceLT, Nat.reduceAdd, Nat.reduceMul, Nat.reduceLeDiff, Nat.le_refl, Int.natCast_zero, Int.toNat_natCast, Int.reduceToNat]
  repeat' first
    | (with_reducible refine And.intro ?_ ?_)
    | (refine sCallT_one (c_l30Code _ _ h1 h2) ?_; try simp -dsimp -implicitDefEqProofs only [go_sem, ↓reduceIte, Nat.reduceEqDiff, Nat.reduceLT, Nat.reduceAdd, Nat.reduceMul, Nat.reduceLeDiff, Nat.le_refl, Int.natCast_zero, Int.toNat_natCast, Int.reduceToNat, *])
  by_cases h : evCode r e = 0
  · obtain ⟨h3, h4⟩ := evCode_zero h
    have h5 : (if isReg r = true then if isEv r e = true then (0 : Int) else 2 else 1) = 0 := h
    rw [h5]
    simp -dsimp -implicitDefEqProofs only [go_sem, ↓reduceIte, Nat.reduceEqDiff, Nat.reduceLT, Nat.reduceAdd, Nat.reduceMul, Nat.reduceLeDiff, Nat.le_refl, Int.natCast_zero, Int.toNat_natCast, Int.reduceToNat]
    refine sCallT_one (c_l30Can _ _ h4) ?_
    simp -dsimp -implicitDefEqProofs only [go_sem, ↓reduceIte, Nat.reduceEqDiff, Nat.reduceLT, Nat.reduceAdd, Nat.reduceMul, Nat.reduceLeDiff, Nat.le_refl, Int.natCast_zero, Int.toNat_natCast, Int.reduceToNat]
    repeat' first
      | (refine Br.intro (fun _ => ?_) (fun _ => ?_) <;> try simp -dsimp -implicitDefEqProofs only [go_sem, ↓reduceIte, Nat.reduceEqDiff, Nat.reduceLT, Nat.reduceAdd, Nat.reduceMul, Nat.reduceLeDiff, Nat.le_refl, Int.natCast_zero, Int.toNat_natCast, Int.reduceToNat, *])
      | (with_reducible refine And.intro ?_ ?_)
      | (refine sCallT_one (c_l30Apply _ _ h4 h1 h2) ?_; try simp -dsimp -implicitDefEqProofs only [go_sem, ↓reduceIte, Nat.reduceEqDiff, Nat.reduceLT, Nat.reduceAdd, Nat.reduceMul, Nat.reduceLeDiff, Nat.le_refl, Int.natCast_zero, Int.toNat_natCast, Int.reduceToNat, *])
    all_goals first | omega | (refine ⟨?_, ?_⟩ <;> omega) | rfl | (simp; done) | (simp_all [applyEvent]; done) | (simp_all [applyEvent]; omega) | (simp_all [applyEvent]; split <;> simp_all <;> omega) | trace_state
  · have h5 : (if isReg r = true then if isEv r e = true then (0 : Int) else 2 else 1) = evCode r e := rfl
    rw [h5]
    have h6 : (evCode r e == 0) = false := by simpa using h
    have h7 : (evCode r e != 0) = true := by simpa using h
    simp -dsimp -implicitDefEqProofs only [go_sem, ↓reduceIte, Nat.reduceEqDiff, Nat.reduceLT, Nat.reduceAdd, Nat.reduceMul, Nat.reduceLeDiff, Nat.le_refl, Int.natCast_zero, Int.toNat_natCast, Int.reduceToNat, h6, h7]
    simp [applyEvent, h]
end Go.Vc


/-
  Contracts: events that are drawn.
-/
set_option linter.unusedVariables false
set_option linter.unusedSimpArgs false
set_option linter.unnecessarySimpa false
namespace Go.Vc
open Go.Proofs
set_option maxRecDepth 100000
def stIx (n : Int) : Nat := (if (if n < 3 then n else 3) > 0 then (if n < 3 then n else 3) else 0).toNat
theorem c_l30State (n : Int) : Fn Try.prog 57 [eI n] true (· = eI (stIx n : Int)) := by
  refine Fn.of_vcN 6 [.tmp 2] Try.func57 rfl rfl rfl rfl rfl (of_decide_eq_true rfl) ?_
  simp -dsimp -implicitDefEqProofs only [go_sem, ↓reduceIte, Nat.reduceEqDiff, Nat.reduceLT, Nat.reduceAdd, Nat.reduceMul, Nat.reduceLeDiff, Nat.le_refl, Int.natCast_zero, Int.toNat_natCast, Int.reduceToNat]
  all_goals (unfold stIx; first | (simp; done) | (congr 2; split <;> split <;> omega) | trace_state)
def drawEvent (bs : List UInt8) (T : List TagM) (R : List Int) (s : Src) : EvM × Src :=
  let a := pk bs [0, 0, 0, 1, 1, 2, 3, 4] s
  let b := nx bs T.length a.2
  let c := nx bs R.length b.2
  let d := pk bs [0, c.1] c.2
  let f := if (decide ((T.length : Int) > 0)) = true then nx bs 2 d.2 else (1, d.2)
  let k := if (f.1 == 0) = true then ([0, 1, 3, 0] : List Int).getD (stIx (T.getD b.1.toNat ⟨0, 0, 0⟩).state) 0 else a.1
  let g := if (k == 0) = true then nx bs R.length f.2 else (-1, f.2)
  let z := nx bs 40 g.2
  if (z.1 == 0) = true then (⟨(pk bs [-1, 5] z.2).1, b.1, g.1, d.1⟩, (pk bs [-1, 5] z.2).2)
  else if (z.1 == 1) = true then (⟨k, (pk bs [-1, (T.length : Int)] z.2).1, g.1, d.1⟩, (pk bs [-1, (T.length : Int)] z.2).2)
  else if (z.1 == 2) = true then (⟨k, b.1, (pk bs [-1, 0, (R.length : Int)] z.2).1, d.1⟩, (pk bs [-1, 0, (R.length : Int)] z.2).2)
  else if (z.1 == 3) = true then (⟨k, b.1, g.1, (pk bs [-1, (R.length : Int)] z.2).1⟩, (pk bs [-1, (R.length : Int)] z.2).2)
  else (⟨k, b.1, g.1, d.1⟩, z.2)
theorem drawEvent_ok (bs : List UInt8) (T : List TagM) (R : List Int) {s : Src} (h : SrcOk s) : SrcOk (drawEvent bs T R s).2 := by
  have h1 := pk_ok bs [0, 0, 0, 1, 1, 2, 3, 4] h
  have h2 := (nx_ok bs T.length h1).2.2.2
  have h3 := (nx_ok bs R.length h2).2.2.2
  have h4 := pk_ok bs [0, (nx bs R.length (nx bs T.length (pk bs [0, 0, 0, 1, 1, 2, 3, 4] s).2).2).1] h3
  dsimp only [drawEvent]
  generalize pk bs [0, 0, 0, 1, 1, 2, 3, 4] s = a at *
  generalize nx bs T.length a.2 = b at *
  generalize nx bs R.length b.2 = c at *
  generalize pk bs [0, c.1] c.2 = d at *
  have h5 : SrcOk (if (decide ((T.length : Int) > 0)) = true then nx bs 2 d.2 else (1, d.2)).2 := by
    split
    · exact (nx_ok bs 2 h4).2.2.2
    · exact h4
  generalize (if (decide ((T.length : Int) > 0)) = true then nx bs 2 d.2 else (1, d.2)) = f at *
  generalize (if (f.1 == 0) = true then ([0, 1, 3, 0] : List Int).getD (stIx (T.getD b.1.toNat ⟨0, 0, 0⟩).state) 0 else a.1) = k
  have h6 : SrcOk (if (k == 0) = true then nx bs R.length f.2 else (-1, f.2)).2 := by
    split
    · exact (nx_ok bs _ h5).2.2.2
    · exact h5
  generalize (if (k == 0) = true then nx bs R.length f.2 else (-1, f.2)) = g at *
  have h7 := (nx_ok bs 40 h6).2.2.2
  generalize nx bs 40 g.2 = z at *
  split
  · exact pk_ok bs _ h7
  split
  · exact pk_ok bs _ h7
  split
  · exact pk_ok bs _ h7
  split
  · exact pk_ok bs _ h7
  · exact h7
set_option maxHeartbeats 8000000 in
theorem c_l30DrawEvent (v v2 v3 : Nat) (d2 d3 : Bool) (bs : List UInt8) (T : List TagM) (R : List Int) (s : Src) (h : SrcOk s) (hl : bs.length ≤ 4096) (hT : T.length ≤ 1048576) (hR : R.length ≤ 1048576) :
    FnM Try.prog 48 [srcB v bs s, .row v2 ⟨3, true⟩ d2 (T.map eTag), .row v3 ⟨1, false⟩ d3 (R.map eI)] [.ptr 1000000000 v 0 0, .agg [.ref 1000000001 v2 0 T.length, .ref 1000000002 v3 0 R.length]]
      (fun x io => x = eEv (drawEvent bs T R s).1 ∧ io = [srcB v bs (drawEvent bs T R s).2, .row v2 ⟨3, true⟩ d2 (T.map eTag), .row v3 ⟨1, false⟩ d3 (R.map eI)]) := by
  refine FnM.of_vcN 98 [.cell 4 62] Try.func48 rfl rfl rfl rfl rfl (of_decide_eq_true rfl) ?_
  have h1 := pk_ok bs [0, 0, 0, 1, 1, 2, 3, 4] h
  have h2 := (nx_ok bs T.length h1).2.2.2
  have h3 := (nx_ok bs R.length h2).2.2.2
  have h4 := pk_ok bs [0, (nx bs R.length (nx bs T.length (pk bs [0, 0, 0, 1, 1, 2, 3, 4] s).2).2).1] h3
  have cA := fun v v2 d ys hy => c_l01Pick v v2 d bs [0, 0, 0, 1, 1, 2, 3, 4] ys s hy (by decide) (by decide) h hl
  have cB := fun v => c_l01Next v bs T.length _ h1 hl
  have cC := fun v => c_l01Next v bs R.length _ h2 hl
  have cD := fun v v2 d ys hy => c_l01Pick v v2 d bs [0, (nx bs R.length (nx bs T.length (pk bs [0, 0, 0, 1, 1, 2, 3, 4] s).2).2).1] ys _ hy (by simp) (by simp) h3 hl
  have hb := nx_ok bs T.length h1
  dsimp only [drawEvent]
  generalize pk bs [0, 0, 0, 1, 1, 2, 3, 4] s = a at *
  generalize nx bs T.length a.2 = b at *
  generalize nx bs R.length b.2 = c at *
  generalize pk bs [0, c.1] c.2 = d at *
  simp -dsimp -implicitDefEqProofs only [go_sem, ↓reduceIte, Nat.reduceEqDiff, Nat.reduceLT, Nat.reduceAdd, Nat.reduceMul, Nat.reduceLeDiff, Nat.le_refl, Int.natCast_zero, Int.toNat_natCast, Int.reduceToNat]
  refine Later.draw mixed rfl ?_
  simp -dsimp -implicitDefEqProofs only [go_sem, ↓reduceIte, Nat.reduceEqDiff, Nat.reduceLT, Nat.reduceAdd, Nat.reduceMul, Nat.reduceLeDiff, Nat.le_refl, Int.natCast_zero, Int.toNat_natCast, Int.reduceToNat]
  (refine sCallX_io [1000000000, 7] rfl ?_; simp -dsimp -implicitDefEqProofs only [go_sem, ↓reduceIte, Nat.reduceEqDiff, Nat.reduceLT, Nat.reduceAdd, Nat.reduceMul, Nat.reduceLeDiff, Nat.le_refl, Int.natCast_zero, Int.toNat_natCast, Int.reduceToNat]; refine sCallMX_one (cA _ _ _ _ rfl) ?_; simp -dsimp -implicitDefEqProofs only [go_sem, ↓reduceIte, Nat.reduceEqDiff, Nat.reduceLT, Nat.reduceAdd, Nat.reduceMul, Nat.reduceLeDiff, Nat.le_refl, Int.natCast_zero, Int.toNat_natCast, Int.reduceToNat])
  (refine sCallX_io [1000000000] rfl ?_; simp -dsimp -implicitDefEqProofs only [go_sem, ↓reduceIte, Nat.reduceEqDiff, Nat.reduceLT, Nat.reduceAdd, Nat.reduceMul, Nat.reduceLeDiff, Nat.le_refl, Int.natCast_zero, Int.toNat_natCast, Int.reduceToNat]; refine sCallMX_one (cB _) ?_; simp -dsimp -implicitDefEqProofs only [go_sem, ↓reduceIte, Nat.reduceEqDiff, Nat.reduceLT, Nat.reduceAdd, Nat.reduceMul, Nat.reduceLeDiff, Nat.le_refl, Int.natCast_zero, Int.toNat_natCast, Int.reduceToNat])
  (refine sCallX_io [1000000000] rfl ?_; simp -dsimp -implicitDefEqProofs only [go_sem, ↓reduceIte, Nat.reduceEqDiff, Nat.reduceLT, Nat.reduceAdd, Nat.reduceMul, Nat.reduceLeDiff, Nat.le_refl, Int.natCast_zero, Int.toNat_natCast, Int.reduceToNat]; refine sCallMX_one (cC _) ?_; simp -dsimp -implicitDefEqProofs only [go_sem, ↓reduceIte, Nat.reduceEqDiff, Nat.reduceLT, Nat.reduceAdd, Nat.reduceMul, Nat.reduceLeDiff, Nat.le_refl, Int.natCast_zero, Int.toNat_natCast, Int.reduceToNat])
  (refine sCallX_io [1000000000, 20] rfl ?_; simp -dsimp -implicitDefEqProofs only [go_sem, ↓reduceIte, Nat.reduceEqDiff, Nat.reduceLT, Nat.reduceAdd, Nat.reduceMul, Nat.reduceLeDiff, Nat.le_refl, Int.natCast_zero, Int.toNat_natCast, Int.reduceToNat]; refine sCallMX_one (cD _ _ _ _ rfl) ?_; simp -dsimp -implicitDefEqProofs only [go_sem, ↓reduceIte, Nat.reduceEqDiff, Nat.reduceLT, Nat.reduceAdd, Nat.reduceMul, Nat.reduceLeDiff, Nat.le_refl, Int.natCast_zero, Int.toNat_natCast, Int.reduceToNat])
  refine ⟨by exact rfl, ?_⟩
  have cF := fun v => c_l01Next v bs 2 _ h4 hl
  have hf : SrcOk (nx bs 2 d.2).2 := (nx_ok bs 2 h4).2.2.2
  generalize nx bs 2 d.2 = f at *
  clear cA cB cC cD h1 h2 h3 h
  obtain ⟨b1, b2, b3, _⟩ := hb
  rcases hT0 : decide ((T.length : Int) > 0) with _ | _
  · clear b1 b2 b3 cF hf
    simp -dsimp -implicitDefEqProofs only [go_sem, ↓reduceIte, Nat.reduceEqDiff, Nat.reduceLT, Nat.reduceAdd, Nat.reduceMul, Nat.reduceLeDiff, Nat.le_refl, Int.natCast_zero, Int.toNat_natCast, Int.reduceToNat, hT0]
    (repeat' (first | (refine Br.intro (fun _ => ?_) (fun _ => ?_) <;> try simp -dsimp -implicitDefEqProofs only [go_sem, ↓reduceIte, Nat.reduceEqDiff, Nat.reduceLT, Nat.reduceAdd, Nat.reduceMul, Nat.reduceLeDiff, Nat.le_refl, Int.natCast_zero, Int.toNat_natCast, Int.reduceToNat, *]) | (with_reducible refine And.intro ?_ ?_) | (refine sCallT_io [1000000000] ?_; simp -dsimp -implicitDefEqProofs only [go_sem, ↓reduceIte, Nat.reduceEqDiff, Nat.reduceLT, Nat.reduceAdd, Nat.reduceMul, Nat.reduceLeDiff, Nat.le_refl, Int.natCast_zero, Int.toNat_natCast, Int.reduceToNat]; refine sCallM_one (c_l01Next _ bs _ _ (by first | assumption | exact (nx_ok _ _ (by first | assumption | exact (nx_ok _ _ (by assumption)).2.2.2)).2.2.2) hl) ?_; simp -dsimp -implicitDefEqProofs only [go_sem, ↓reduceIte, Nat.reduceEqDiff, Nat.reduceLT, Nat.reduceAdd, Nat.reduceMul, Nat.reduceLeDiff, Nat.le_refl, Int.natCast_zero, Int.toNat_natCast, Int.reduceToNat]) | (refine sCallT_io [1000000000, 67] ?_; simp -dsimp -implicitDefEqProofs only [go_sem, ↓reduceIte, Nat.reduceEqDiff, Nat.reduceLT, Nat.reduceAdd, Nat.reduceMul, Nat.reduceLeDiff, Nat.le_refl, Int.natCast_zero, Int.toNat_natCast, Int.reduceToNat]; refine sCallM_one (c_l01Pick _ _ _ bs [-1, 5] _ _ rfl (by simp) (by simp) (by first | assumption | exact (nx_ok _ _ (by first | assumption | exact (nx_ok _ _ (by assumption)).2.2.2)).2.2.2) hl) ?_; simp -dsimp -implicitDefEqProofs only [go_sem, ↓reduceIte, Nat.reduceEqDiff, Nat.reduceLT, Nat.reduceAdd, Nat.reduceMul, Nat.reduceLeDiff, Nat.le_refl, Int.natCast_zero, Int.toNat_natCast, Int.reduceToNat]) | (refine sCallT_io [1000000000, 76] ?_; simp -dsimp -implicitDefEqProofs only [go_sem, ↓reduceIte, Nat.reduceEqDiff, Nat.reduceLT, Nat.reduceAdd, Nat.reduceMul, Nat.reduceLeDiff, Nat.le_refl, Int.natCast_zero, Int.toNat_natCast, Int.reduceToNat]; refine sCallM_one (c_l01Pick _ _ _ bs [-1, (T.length : Int)] _ _ rfl (by simp) (by simp) (by first | assumption | exact (nx_ok _ _ (by first | assumption | exact (nx_ok _ _ (by assumption)).2.2.2)).2.2.2) hl) ?_; simp -dsimp -implicitDefEqProofs only [go_sem, ↓reduceIte, Nat.reduceEqDiff, Nat.reduceLT, Nat.reduceAdd, Nat.reduceMul, Nat.reduceLeDiff, Nat.le_refl, Int.natCast_zero, Int.toNat_natCast, Int.reduceToNat]) | (refine sCallT_io [1000000000, 85] ?_; simp -dsimp -implicitDefEqProofs only [go_sem, ↓reduceIte, Nat.reduceEqDiff, Nat.reduceLT, Nat.reduceAdd, Nat.reduceMul, Nat.reduceLeDiff, Nat.le_refl, Int.natCast_zero, Int.toNat_natCast, Int.reduceToNat]; refine sCallM_one (c_l01Pick _ _ _ bs [-1, 0, (R.length : Int)] _ _ rfl (by simp) (by simp) (by first | assumption | exact (nx_ok _ _ (by first | assumption | exact (nx_ok _ _ (by assumption)).2.2.2)).2.2.2) hl) ?_; simp -dsimp -implicitDefEqProofs only [go_sem, ↓reduceIte, Nat.reduceEqDiff, Nat.reduceLT, Nat.reduceAdd, Nat.reduceMul, Nat.reduceLeDiff, Nat.le_refl, Int.natCast_zero, Int.toNat_natCast, Int.reduceToNat]) | (refine sCallT_io [1000000000, 94] ?_; simp -dsimp -implicitDefEqProofs only [go_sem, ↓reduceIte, Nat.reduceEqDiff, Nat.reduceLT, Nat.reduceAdd, Nat.reduceMul, Nat.reduceLeDiff, Nat.le_refl, Int.natCast_zero, Int.toNat_natCast, Int.reduceToNat]; refine sCallM_one (c_l01Pick _ _ _ bs [-1, (R.length : Int)] _ _ rfl (by simp) (by simp) (by first | assumption | exact (nx_ok _ _ (by first | assumption | exact (nx_ok _ _ (by assumption)).2.2.2)).2.2.2) hl) ?_; simp -dsimp -implicitDefEqProofs only [go_sem, ↓reduceIte, Nat.reduceEqDiff, Nat.reduceLT, Nat.reduceAdd, Nat.reduceMul, Nat.reduceLeDiff, Nat.le_refl, Int.natCast_zero, Int.toNat_natCast, Int.reduceToNat]))); all_goals (first | omega | (refine ⟨?_, ?_⟩ <;> omega) | (exact rfl) | (simp [*]; done) | trace_state)
  · have hp := of_decide_eq_true hT0
    have hbT : b.1 < T.length := by
      by_cases hc : (T.length : Int) ≤ 1
      · rw [b2 hc]; omega
      · exact b3 (by omega)
    have hin : isIn b.1 0 ((T.length : Int) - 1) = true := by simp [isIn]; omega
    have hg : T[b.1.toNat]? = some (T.getD b.1.toNat ⟨0, 0, 0⟩) := by simp [List.getD_eq_getElem?_getD, show b.1.toNat < T.length by omega]
    clear b2 b3
    simp -dsimp -implicitDefEqProofs only [go_sem, ↓reduceIte, Nat.reduceEqDiff, Nat.reduceLT, Nat.reduceAdd, Nat.reduceMul, Nat.reduceLeDiff, Nat.le_refl, Int.natCast_zero, Int.toNat_natCast, Int.reduceToNat, hT0]
    (refine sCallT_io [1000000000] ?_; simp -dsimp -implicitDefEqProofs only [go_sem, ↓reduceIte, Nat.reduceEqDiff, Nat.reduceLT, Nat.reduceAdd, Nat.reduceMul, Nat.reduceLeDiff, Nat.le_refl, Int.natCast_zero, Int.toNat_natCast, Int.reduceToNat]; refine sCallM_one (cF _) ?_; simp -dsimp -implicitDefEqProofs only [go_sem, ↓reduceIte, Nat.reduceEqDiff, Nat.reduceLT, Nat.reduceAdd, Nat.reduceMul, Nat.reduceLeDiff, Nat.le_refl, Int.natCast_zero, Int.toNat_natCast, Int.reduceToNat])
    clear cF
    rcases hf0 : (f.1 == 0) with _ | _
    · clear b1 hbT hin hg
      simp -dsimp -implicitDefEqProofs only [go_sem, ↓reduceIte, Nat.reduceEqDiff, Nat.reduceLT, Nat.reduceAdd, Nat.reduceMul, Nat.reduceLeDiff, Nat.le_refl, Int.natCast_zero, Int.toNat_natCast, Int.reduceToNat, hf0]
      (repeat' (first | (refine Br.intro (fun _ => ?_) (fun _ => ?_) <;> try simp -dsimp -implicitDefEqProofs only [go_sem, ↓reduceIte, Nat.reduceEqDiff, Nat.reduceLT, Nat.reduceAdd, Nat.reduceMul, Nat.reduceLeDiff, Nat.le_refl, Int.natCast_zero, Int.toNat_natCast, Int.reduceToNat, *]) | (with_reducible refine And.intro ?_ ?_) | (refine sCallT_io [1000000000] ?_; simp -dsimp -implicitDefEqProofs only [go_sem, ↓reduceIte, Nat.reduceEqDiff, Nat.reduceLT, Nat.reduceAdd, Nat.reduceMul, Nat.reduceLeDiff, Nat.le_refl, Int.natCast_zero, Int.toNat_natCast, Int.reduceToNat]; refine sCallM_one (c_l01Next _ bs _ _ (by first | assumption | exact (nx_ok _ _ (by first | assumption | exact (nx_ok _ _ (by assumption)).2.2.2)).2.2.2) hl) ?_; simp -dsimp -implicitDefEqProofs only [go_sem, ↓reduceIte, Nat.reduceEqDiff, Nat.reduceLT, Nat.reduceAdd, Nat.reduceMul, Nat.reduceLeDiff, Nat.le_refl, Int.natCast_zero, Int.toNat_natCast, Int.reduceToNat]) | (refine sCallT_io [1000000000, 67] ?_; simp -dsimp -implicitDefEqProofs only [go_sem, ↓reduceIte, Nat.reduceEqDiff, Nat.reduceLT, Nat.reduceAdd, Nat.reduceMul, Nat.reduceLeDiff, Nat.le_refl, Int.natCast_zero, Int.toNat_natCast, Int.reduceToNat]; refine sCallM_one (c_l01Pick _ _ _ bs [-1, 5] _ _ rfl (by simp) (by simp) (by first | assumption | exact (nx_ok _ _ (by first | assumption | exact (nx_ok _ _ (by assumption)).2.2.2)).2.2.2) hl) ?_; simp -dsimp -implicitDefEqProofs only [go_sem, ↓reduceIte, Nat.reduceEqDiff, Nat.reduceLT, Nat.reduceAdd, Nat.reduceMul, Nat.reduceLeDiff, Nat.le_refl, Int.natCast_zero, Int.toNat_natCast, Int.reduceToNat]) | (refine sCallT_io [1000000000, 76] ?_; simp -dsimp -implicitDefEqProofs only [go_sem, ↓reduceIte, Nat.reduceEqDiff, Nat.reduceLT, Nat.reduceAdd, Nat.reduceMul, Nat.reduceLeDiff, Nat.le_refl, Int.natCast_zero, Int.toNat_natCast, Int.reduceToNat]; refine sCallM_one (c_l01Pick _ _ _ bs [-1, (T.length : Int)] _ _ rfl (by simp) (by simp) (by first | assumption | exact (nx_ok _ _ (by first | assumption | exact (nx_ok _ _ (by assumption)).2.2.2)).2.2.2) hl) ?_; simp -dsimp -implicitDefEqProofs only [go_sem, ↓reduceIte, Nat.reduceEqDiff, Nat.reduceLT, Nat.reduceAdd, Nat.reduceMul, Nat.reduceLeDiff, Nat.le_refl, Int.natCast_zero, Int.toNat_natCast, Int.reduceToNat]) | (refine sCallT_io [1000000000, 85] ?_; simp -dsimp -implicitDefEqProofs only [go_sem, ↓reduceIte, Nat.reduceEqDiff, Nat.reduceLT, Nat.reduceAdd, Nat.reduceMul, Nat.reduceLeDiff, Nat.le_refl, Int.natCast_zero, Int.toNat_natCast, Int.reduceToNat]; refine sCallM_one (c_l01Pick _ _ _ bs [-1, 0, (R.length : Int)] _ _ rfl (by simp) (by simp) (by first | assumption | exact (nx_ok _ _ (by first | assumption | exact (nx_ok _ _ (by assumption)).2.2.2)).2.2.2) hl) ?_; simp -dsimp -implicitDefEqProofs only [go_sem, ↓reduceIte, Nat.reduceEqDiff, Nat.reduceLT, Nat.reduceAdd, Nat.reduceMul, Nat.reduceLeDiff, Nat.le_refl, Int.natCast_zero, Int.toNat_natCast, Int.reduceToNat]) | (refine sCallT_io [1000000000, 94] ?_; simp -dsimp -implicitDefEqProofs only [go_sem, ↓reduceIte, Nat.reduceEqDiff, Nat.reduceLT, Nat.reduceAdd, Nat.reduceMul, Nat.reduceLeDiff, Nat.le_refl, Int.natCast_zero, Int.toNat_natCast, Int.reduceToNat]; refine sCallM_one (c_l01Pick _ _ _ bs [-1, (R.length : Int)] _ _ rfl (by simp) (by simp) (by first | assumption | exact (nx_ok _ _ (by first | assumption | exact (nx_ok _ _ (by assumption)).2.2.2)).2.2.2) hl) ?_; simp -dsimp -implicitDefEqProofs only [go_sem, ↓reduceIte, Nat.reduceEqDiff, Nat.reduceLT, Nat.reduceAdd, Nat.reduceMul, Nat.reduceLeDiff, Nat.le_refl, Int.natCast_zero, Int.toNat_natCast, Int.reduceToNat]))); all_goals (first | omega | (refine ⟨?_, ?_⟩ <;> omega) | (exact rfl) | (simp [*]; done) | trace_state)
    · have hst : stIx (T.getD b.1.toNat ⟨0, 0, 0⟩).state < 4 := by unfold stIx; omega
      have hk : ∀ i, i < 4 → ([eI 0, eI 1, eI 3, eI 0] : List AV)[i]? = some (eI (([0, 1, 3, 0] : List Int).getD i 0)) := fun i hi => by
        match i, hi with
        | 0, _ => rfl
        | 1, _ => rfl
        | 2, _ => rfl
        | 3, _ => rfl
      have hk := hk _ hst
      generalize T.getD b.1.toNat ⟨0, 0, 0⟩ = t at *
      generalize ([0, 1, 3, 0] : List Int).getD (stIx t.state) 0 = k at *
      simp -dsimp -implicitDefEqProofs only [go_sem, ↓reduceIte, Nat.reduceEqDiff, Nat.reduceLT, Nat.reduceAdd, Nat.reduceMul, Nat.reduceLeDiff, Nat.le_refl, Int.natCast_zero, Int.toNat_natCast, Int.reduceToNat, hf0]
      repeat' first
        | (with_reducible refine And.intro ?_ ?_)
        | (refine sCallT_one (c_l01In b.1 0 ((T.length : Int) - 1)) ?_; simp -dsimp -implicitDefEqProofs only [go_sem, ↓reduceIte, Nat.reduceEqDiff, Nat.reduceLT, Nat.reduceAdd, Nat.reduceMul, Nat.reduceLeDiff, Nat.le_refl, Int.natCast_zero, Int.toNat_natCast, Int.reduceToNat, hin])
      all_goals try (first | omega | (refine ⟨?_, ?_⟩ <;> omega) | (exact rfl))
      simp -dsimp -implicitDefEqProofs only [go_sem, ↓reduceIte, Nat.reduceEqDiff, Nat.reduceLT, Nat.reduceAdd, Nat.reduceMul, Nat.reduceLeDiff, Nat.le_refl, Int.natCast_zero, Int.toNat_natCast, Int.reduceToNat, hg]
      refine sCallT_one (c_l30State t.state) ?_
      simp -dsimp -implicitDefEqProofs only [go_sem, ↓reduceIte, Nat.reduceEqDiff, Nat.reduceLT, Nat.reduceAdd, Nat.reduceMul, Nat.reduceLeDiff, Nat.le_refl, Int.natCast_zero, Int.toNat_natCast, Int.reduceToNat, hk]
      repeat' (with_reducible refine And.intro ?_ ?_)
      all_goals try (first | omega | (refine ⟨?_, ?_⟩ <;> omega))
      clear hst hk hg hin hbT b1 hp
      (repeat' (first | (refine Br.intro (fun _ => ?_) (fun _ => ?_) <;> try simp -dsimp -implicitDefEqProofs only [go_sem, ↓reduceIte, Nat.reduceEqDiff, Nat.reduceLT, Nat.reduceAdd, Nat.reduceMul, Nat.reduceLeDiff, Nat.le_refl, Int.natCast_zero, Int.toNat_natCast, Int.reduceToNat, *]) | (with_reducible refine And.intro ?_ ?_) | (refine sCallT_io [1000000000] ?_; simp -dsimp -implicitDefEqProofs only [go_sem, ↓reduceIte, Nat.reduceEqDiff, Nat.reduceLT, Nat.reduceAdd, Nat.reduceMul, Nat.reduceLeDiff, Nat.le_refl, Int.natCast_zero, Int.toNat_natCast, Int.reduceToNat]; refine sCallM_one (c_l01Next _ bs _ _ (by first | assumption | exact (nx_ok _ _ (by first | assumption | exact (nx_ok _ _ (by assumption)).2.2.2)).2.2.2) hl) ?_; simp -dsimp -implicitDefEqProofs only [go_sem, ↓reduceIte, Nat.reduceEqDiff, Nat.reduceLT, Nat.reduceAdd, Nat.reduceMul, Nat.reduceLeDiff, Nat.le_refl, Int.natCast_zero, Int.toNat_natCast, Int.reduceToNat]) | (refine sCallT_io [1000000000, 67] ?_; simp -dsimp -implicitDefEqProofs only [go_sem, ↓reduceIte, Nat.reduceEqDiff, Nat.reduceLT, Nat.reduceAdd, Nat.reduceMul, Nat.reduceLeDiff, Nat.le_refl, Int.natCast_zero, Int.toNat_natCast, Int.reduceToNat]; refine sCallM_one (c_l01Pick _ _ _ bs [-1, 5] _ _ rfl (by simp) (by simp) (by first | assumption | exact (nx_ok _ _ (by first | assumption | exact (nx_ok _ _ (by assumption)).2.2.2)).2.2.2) hl) ?_; simp -dsimp -implicitDefEqProofs only [go_sem, ↓reduceIte, Nat.reduceEqDiff, Nat.reduceLT, Nat.reduceAdd, Nat.reduceMul, Nat.reduceLeDiff, Nat.le_refl, Int.natCast_zero, Int.toNat_natCast, Int.reduceToNat]) | (refine sCallT_io [1000000000, 76] ?_; simp -dsimp -implicitDefEqProofs only [go_sem, ↓reduceIte, Nat.reduceEqDiff, Nat.reduceLT, Nat.reduceAdd, Nat.reduceMul, Nat.reduceLeDiff, Nat.le_refl, Int.natCast_zero, Int.toNat_natCast, Int.reduceToNat]; refine sCallM_one (c_l01Pick _ _ _ bs [-1, (T.length : Int)] _ _ rfl (by simp) (by simp) (by first | assumption | exact (nx_ok _ _ (by first | assumption | exact (nx_ok _ _ (by assumption)).2.2.2)).2.2.2) hl) ?_; simp -dsimp -implicitDefEqProofs only [go_sem, ↓reduceIte, Nat.reduceEqDiff, Nat.reduceLT, Nat.reduceAdd, Nat.reduceMul, Nat.reduceLeDiff, Nat.le_refl, Int.natCast_zero, Int.toNat_natCast, Int.reduceToNat]) | (refine sCallT_io [1000000000, 85] ?_; simp -dsimp -implicitDefEqProofs only [go_sem, ↓reduceIte, Nat.reduceEqDiff, Nat.reduceLT, Nat.reduceAdd, Nat.reduceMul, Nat.reduceLeDiff, Nat.le_refl, Int.natCast_zero, Int.toNat_natCast, Int.reduceToNat]; refine sCallM_one (c_l01Pick _ _ _ bs [-1, 0, (R.length : Int)] _ _ rfl (by simp) (by simp) (by first | assumption | exact (nx_ok _ _ (by first | assumption | exact (nx_ok _ _ (by assumption)).2.2.2)).2.2.2) hl) ?_; simp -dsimp -implicitDefEqProofs only [go_sem, ↓reduceIte, Nat.reduceEqDiff, Nat.reduceLT, Nat.reduceAdd, Nat.reduceMul, Nat.reduceLeDiff, Nat.le_refl, Int.natCast_zero, Int.toNat_natCast, Int.reduceToNat]) | (refine sCallT_io [1000000000, 94] ?_; simp -dsimp -implicitDefEqProofs only [go_sem, ↓reduceIte, Nat.reduceEqDiff, Nat.reduceLT, Nat.reduceAdd, Nat.reduceMul, Nat.reduceLeDiff, Nat.le_refl, Int.natCast_zero, Int.toNat_natCast, Int.reduceToNat]; refine sCallM_one (c_l01Pick _ _ _ bs [-1, (R.length : Int)] _ _ rfl (by simp) (by simp) (by first | assumption | exact (nx_ok _ _ (by first | assumption | exact (nx_ok _ _ (by assumption)).2.2.2)).2.2.2) hl) ?_; simp -dsimp -implicitDefEqProofs only [go_sem, ↓reduceIte, Nat.reduceEqDiff, Nat.reduceLT, Nat.reduceAdd, Nat.reduceMul, Nat.reduceLeDiff, Nat.le_refl, Int.natCast_zero, Int.toNat_natCast, Int.reduceToNat]))); all_goals (first | omega | (refine ⟨?_, ?_⟩ <;> omega) | (exact rfl) | (simp [*]; done) | trace_state)
end Go.Vc


/-
  Contracts: lists of events that are drawn.
-/
set_option linter.unusedVariables false
set_option linter.unusedSimpArgs false
set_option linter.unnecessarySimpa false
namespace Go.Vc
open Go.Proofs
set_option maxRecDepth 100000
attribute [local irreducible] drawEvent
def nowAfter (r : RegM) (e : EvM) : RegM := if (applyEvent r e).2 = 0 then (applyEvent r e).1 else r
theorem applyEvent_len (r : RegM) (e : EvM) (h : (applyEvent r e).2 = 0) : (applyEvent r e).1.tags.length = r.tags.length ∧ (applyEvent r e).1.roles = r.roles ∧ applyEvent r e = (applyEv r e, 0) ∧ isReg r = true ∧ isEv r e = true ∧ canEv r e = true := by
  unfold applyEvent at *
  split at h
  · rename_i h0
    split at h
    · rename_i h1
      rw [if_pos h0, if_pos h1]
      exact ⟨by simp [applyEv], rfl, rfl, (evCode_zero h0).1, (evCode_zero h0).2, h1⟩
    · cases h
  · rename_i h0; exact absurd h h0
def drawEvs (bs : List UInt8) : Nat → RegM → List EvM → Src → List EvM × Src
  | 0, _, out, s => (out, s)
  | k + 1, now, out, s => drawEvs bs k (nowAfter now (drawEvent bs now.tags now.roles s).1) (out ++ [(drawEvent bs now.tags now.roles s).1]) (drawEvent bs now.tags now.roles s).2
def fillE (bs : List UInt8) : Nat → List EvM → Src → List EvM × Src
  | 0, out, s => (out, s)
  | k + 1, out, s => if (out.length : Int) < 60 + (nx bs 2 s).1 then fillE bs k (out ++ [⟨0, 0, 0, 0⟩]) (nx bs 2 s).2 else (out, (nx bs 2 s).2)
theorem drawEvs_ok (bs : List UInt8) : ∀ (k : Nat) (now : RegM) (out : List EvM) (s : Src), SrcOk s → SrcOk (drawEvs bs k now out s).2 ∧ (drawEvs bs k now out s).1.length = out.length + k
  | 0, _, _, _, h => ⟨h, rfl⟩
  | k + 1, now, out, s, h => by
    have := drawEvs_ok bs k (nowAfter now (drawEvent bs now.tags now.roles s).1) (out ++ [(drawEvent bs now.tags now.roles s).1]) _ (drawEvent_ok bs now.tags now.roles h)
    rw [drawEvs]
    refine ⟨this.1, this.2.trans ?_⟩
    rw [List.length_append, List.length_singleton]; omega
theorem fillE_ok (bs : List UInt8) : ∀ (k : Nat) (out : List EvM) (s : Src), SrcOk s → out.length ≤ 61 → SrcOk (fillE bs k out s).2 ∧ (fillE bs k out s).1.length ≤ 61
  | 0, _, _, h, hl => ⟨h, hl⟩
  | k + 1, out, s, h, hl => by
    have h2 := nx_ok bs 2 h
    rw [fillE]
    split
    · rename_i hlt
      have := h2.2.2.1 (by omega)
      exact fillE_ok bs k _ _ h2.2.2.2 (by rw [List.length_append, List.length_singleton]; omega)
    · exact ⟨h2.2.2.2, hl⟩
def drawEvents (bs : List UInt8) (r : RegM) (s : Src) : List EvM × Src :=
  let a := nx bs 14 s
  let b := if 0 < r.tags.length then drawEvs bs a.1.toNat r [] a.2 else ([], a.2)
  let c := nx bs 40 b.2
  if c.1 = 0 ∧ 0 < r.tags.length then fillE bs 62 b.1 c.2 else (b.1, c.2)
theorem drawEvents_ok (bs : List UInt8) (r : RegM) {s : Src} (h : SrcOk s) : SrcOk (drawEvents bs r s).2 ∧ (drawEvents bs r s).1.length ≤ 61 := by
  have h1 := nx_ok bs 14 h
  have h2 := h1.2.2.1 (by omega)
  have h3 := drawEvs_ok bs (nx bs 14 s).1.toNat r [] _ h1.2.2.2
  have h4 : SrcOk (if 0 < r.tags.length then drawEvs bs (nx bs 14 s).1.toNat r [] (nx bs 14 s).2 else ([], (nx bs 14 s).2)).2 ∧ (if 0 < r.tags.length then drawEvs bs (nx bs 14 s).1.toNat r [] (nx bs 14 s).2 else ([], (nx bs 14 s).2)).1.length ≤ 61 := by
    split
    · refine ⟨h3.1, ?_⟩
      rw [h3.2]; simp; omega
    · exact ⟨h1.2.2.2, by simp⟩
  dsimp only [drawEvents]
  generalize (if 0 < r.tags.length then drawEvs bs (nx bs 14 s).1.toNat r [] (nx bs 14 s).2 else ([], (nx bs 14 s).2)) = b at *
  have h5 := nx_ok bs 40 h4.1
  split
  · exact fillE_ok bs 62 _ _ h5.2.2.2 h4.2
  · exact ⟨h5.2.2.2, h4.2⟩
structure DSt where
  own : Bool
  k : Nat
  now : RegM
  out : List EvM
  s : Src
set_option maxHeartbeats 8000000 in
theorem c_l30DrawEvents (v v2 v3 : Nat) (bs : List UInt8) (r : RegM) (s : Src) (h : SrcOk s) (hl : bs.length ≤ 4096) (hT : r.tags.length ≤ 1048576) (hR : r.roles.length ≤ 1048576) :
    FnM Try.prog 36 [srcB v bs s, .row v2 ⟨3, true⟩ true (r.tags.map eTag), .row v3 ⟨1, false⟩ true (r.roles.map eI)] [.ptr 1000000000 v 0 0, .agg [.ref 1000000001 v2 0 r.tags.length, .ref 1000000002 v3 0 r.roles.length]]
      (fun x io => x = eEvs (drawEvents bs r s).1 ∧ io = [srcB v bs (drawEvents bs r s).2, .row v2 ⟨3, true⟩ true (r.tags.map eTag), .row v3 ⟨1, false⟩ true (r.roles.map eI)]) := by
  refine FnM.of_vcN 61 [.tmp 4] Try.func36 rfl rfl rfl rfl rfl (of_decide_eq_true rfl) ?_
  have h1 := nx_ok bs 14 h
  have h2 := h1.2.2.1 (by omega)
  have hd : drawEvents bs r s = (let c := nx bs 40 (if 0 < r.tags.length then drawEvs bs (nx bs 14 s).1.toNat r [] (nx bs 14 s).2 else ([], (nx bs 14 s).2)).2; if c.1 = 0 ∧ 0 < r.tags.length then fillE bs 62 (if 0 < r.tags.length then drawEvs bs (nx bs 14 s).1.toNat r [] (nx bs 14 s).2 else ([], (nx bs 14 s).2)).1 c.2 else ((if 0 < r.tags.length then drawEvs bs (nx bs 14 s).1.toNat r [] (nx bs 14 s).2 else ([], (nx bs 14 s).2)).1, c.2)) := rfl
  have hB : SrcOk (if 0 < r.tags.length then drawEvs bs (nx bs 14 s).1.toNat r [] (nx bs 14 s).2 else ([], (nx bs 14 s).2)).2 ∧ (if 0 < r.tags.length then drawEvs bs (nx bs 14 s).1.toNat r [] (nx bs 14 s).2 else ([], (nx bs 14 s).2)).1.length ≤ 13 := by
    have h3 := drawEvs_ok bs (nx bs 14 s).1.toNat r [] _ h1.2.2.2
    split
    · refine ⟨h3.1, ?_⟩
      rw [h3.2]; simp; omega
    · exact ⟨h1.2.2.2, by simp⟩
  obtain ⟨b, hb⟩ : ∃ b, (if 0 < r.tags.length then drawEvs bs (nx bs 14 s).1.toNat r [] (nx bs 14 s).2 else ([], (nx bs 14 s).2)) = b := ⟨_, rfl⟩
  rw [hb] at hd hB
  rw [hd]
  clear hd
  dsimp only
  simp -dsimp -implicitDefEqProofs only [go_sem, ↓reduceIte, Nat.reduceEqDiff, Nat.reduceLT, Nat.reduceAdd, Nat.reduceMul, Nat.reduceLeDiff, Nat.le_refl, Int.natCast_zero, Int.toNat_natCast, Int.reduceToNat]
  repeat' (with_reducible refine And.intro ?_ ?_)
  (refine sCallT_io [1000000000] ?_; simp -dsimp -implicitDefEqProofs only [go_sem, ↓reduceIte, Nat.reduceEqDiff, Nat.reduceLT, Nat.reduceAdd, Nat.reduceMul, Nat.reduceLeDiff, Nat.le_refl, Int.natCast_zero, Int.toNat_natCast, Int.reduceToNat]; refine sCallM_one (c_l01Next _ bs 14 _ h hl) ?_; simp -dsimp -implicitDefEqProofs only [go_sem, ↓reduceIte, Nat.reduceEqDiff, Nat.reduceLT, Nat.reduceAdd, Nat.reduceMul, Nat.reduceLeDiff, Nat.le_refl, Int.natCast_zero, Int.toNat_natCast, Int.reduceToNat])
  generalize nx bs 14 s = a at *
  refine Later.lpR [0, 3, 6] [8, 9, 20, 27, 30, 31, 35] [6, 11, 700, 701, 36000, 36001, 1000000000]
    (fun x : DSt => SrcOk x.s ∧ x.now.tags.length = r.tags.length ∧ x.now.roles = r.roles ∧ x.k + x.out.length ≤ 13 ∧ (if 0 < r.tags.length then drawEvs bs x.k x.now x.out x.s else (x.out, x.s)) = b ∧ (x.own = false → x.now = r) ∧ (x.own = true → 0 < r.tags.length))
    (fun x => [(7, eI x.k), (5, .ref 11 0 0 x.out.length)])
    (fun x => (if x.own then [(6, .box 0 [.ref 700 0 0 x.now.tags.length, .ref 701 0 0 x.now.roles.length]), (700, .row 0 ⟨3, true⟩ true (x.now.tags.map eTag)), (701, .row 0 ⟨1, false⟩ true (x.now.roles.map eI))] else [(6, .box 0 [.ref 1000000001 v2 0 r.tags.length, .ref 1000000002 v3 0 r.roles.length])]) ++ [(11, .row 0 ⟨4, true⟩ true (x.out.map eEv)), (1000000000, srcB v bs x.s)])
    (fun x => x.k) ⟨false, a.1.toNat, r, [], a.2⟩ ⟨h1.2.2.2, rfl, rfl, by simp; omega, hb, fun _ => rfl, fun h => by cases h⟩ (.here ?_) rfl (fun x hI => ?_)
  · dsimp only
    rw [show ((a.1.toNat : Nat) : Int) = a.1 by omega]
    simp -dsimp -implicitDefEqProofs only [go_sem, ↓reduceIte, Nat.reduceEqDiff, Nat.reduceLT, Nat.reduceAdd, Nat.reduceMul, Nat.reduceLeDiff, Nat.le_refl, Int.natCast_zero, Int.toNat_natCast, Int.reduceToNat]
  · clear hb h1 h2 h
    obtain ⟨own, k, now, out, s⟩ := x
    obtain ⟨i1, i2, i3, i4, i5, i6, i7⟩ := hI
    dsimp only at i1 i2 i3 i4 i5 i6 i7 ⊢
    cases k with
    | zero =>
      have hbe : (out, s) = b := by
        rw [← i5]; split <;> rfl
      subst hbe
      clear i5 hB
      have hk0 : decide ((0 : Int) > 0) = false := rfl
      cases own with
      | false =>
        simp only [Bool.false_eq_true, if_false]
        simp -dsimp -implicitDefEqProofs only [pick_nil, pick_cons, look_nil, look_cons, dropB_nil, dropB_cons, inD_nil, inD_cons, inE_nil, inE_cons, or_t_l, or_f_l, Nat.reduceBEq, Nat.reduceDiv, Nat.reduceAdd, beq_self_eq_true, Bool.false_eq_true, Bool.or_false, ↓reduceIte, Nat.reduceEqDiff, List.cons_append, List.nil_append]
        simp -dsimp -implicitDefEqProofs only [go_sem, ↓reduceIte, Nat.reduceEqDiff, Nat.reduceLT, Nat.reduceAdd, Nat.reduceMul, Nat.reduceLeDiff, Nat.le_refl, Int.natCast_zero, Int.toNat_natCast, Int.reduceToNat, hk0]
        try dsimp only
        (refine sCallT_io [1000000000] ?_; simp -dsimp -implicitDefEqProofs only [go_sem, ↓reduceIte, Nat.reduceEqDiff, Nat.reduceLT, Nat.reduceAdd, Nat.reduceMul, Nat.reduceLeDiff, Nat.le_refl, Int.natCast_zero, Int.toNat_natCast, Int.reduceToNat]; refine sCallM_one (c_l01Next _ bs 40 _ i1 hl) ?_; simp -dsimp -implicitDefEqProofs only [go_sem, ↓reduceIte, Nat.reduceEqDiff, Nat.reduceLT, Nat.reduceAdd, Nat.reduceMul, Nat.reduceLeDiff, Nat.le_refl, Int.natCast_zero, Int.toNat_natCast, Int.reduceToNat])
        have hco := (nx_ok bs 40 i1).2.2.2
        generalize nx bs 40 s = c at *
        rcases hc : (c.1 == 0) with _ | _
        · have hc1 : ¬ c.1 = 0 := by simpa using hc
          rw [if_neg (fun h => hc1 h.1)]
          simp -dsimp -implicitDefEqProofs only [go_sem, ↓reduceIte, Nat.reduceEqDiff, Nat.reduceLT, Nat.reduceAdd, Nat.reduceMul, Nat.reduceLeDiff, Nat.le_refl, Int.natCast_zero, Int.toNat_natCast, Int.reduceToNat, hc]
          all_goals (first | omega | (refine ⟨?_, ?_⟩ <;> omega) | (exact rfl) | (simp; done) | (simp [*]; done) | trace_state)
        rcases hT0 : decide ((r.tags.length : Int) > 0) with _ | _
        · have hT1 := of_decide_eq_false hT0
          rw [if_neg (fun h => hT1 (by omega))]
          simp -dsimp -implicitDefEqProofs only [go_sem, ↓reduceIte, Nat.reduceEqDiff, Nat.reduceLT, Nat.reduceAdd, Nat.reduceMul, Nat.reduceLeDiff, Nat.le_refl, Int.natCast_zero, Int.toNat_natCast, Int.reduceToNat, hc, hT0]
          repeat' (with_reducible refine And.intro ?_ ?_)
          all_goals (first | omega | (refine ⟨?_, ?_⟩ <;> omega) | (exact rfl) | (simp; done) | (simp [*]; done) | trace_state)
        have hT1 := of_decide_eq_true hT0
        rw [if_pos ⟨by simpa using hc, by omega⟩]
        simp -dsimp -implicitDefEqProofs only [go_sem, ↓reduceIte, Nat.reduceEqDiff, Nat.reduceLT, Nat.reduceAdd, Nat.reduceMul, Nat.reduceLeDiff, Nat.le_refl, Int.natCast_zero, Int.toNat_natCast, Int.reduceToNat, hc, hT0]
        repeat' (with_reducible refine And.intro ?_ ?_)
        all_goals try (first | omega | (simp; done))
        have hfl := fillE_ok bs 62 out c.2 hco (by omega)
        obtain ⟨z, hz⟩ : ∃ z, fillE bs 62 out c.2 = z := ⟨_, rfl⟩
        rw [hz] at hfl ⊢
        refine Later.lp [0] [51, 53, 58, 59] [11, 1000000000] (fun x : Nat × List EvM × Src => SrcOk x.2.2 ∧ x.2.1.length ≤ 61 ∧ 62 ≤ x.1 + x.2.1.length ∧ fillE bs x.1 x.2.1 x.2.2 = z)
          (fun x => [(5, .ref 11 0 0 x.2.1.length)]) (fun x => [(11, .row 0 ⟨4, true⟩ true (x.2.1.map eEv)), (1000000000, srcB v bs x.2.2)]) (fun x => x.1) (62, out, c.2) ⟨hco, by dsimp only; omega, by dsimp only; omega, hz⟩ ?_ rfl (fun x hI => ?_)
        · simp -dsimp -implicitDefEqProofs only [go_sem, ↓reduceIte, Nat.reduceEqDiff, Nat.reduceLT, Nat.reduceAdd, Nat.reduceMul, Nat.reduceLeDiff, Nat.le_refl, Int.natCast_zero, Int.toNat_natCast, Int.reduceToNat]
        · obtain ⟨k, out, s⟩ := x
          obtain ⟨q1, q2, q3, q4⟩ := hI
          dsimp only at q1 q2 q3 q4 ⊢
          clear hz
          cases k with
          | zero => exact absurd q3 (by omega)
          | succ k =>
            rw [fillE] at q4
            have hx := nx_ok bs 2 q1
            have hx2 := hx.2.2.1 (by omega)
            have hcn := fun v => c_l01Next v bs 2 s q1 hl
            generalize nx bs 2 s = y at *
            simp -dsimp -implicitDefEqProofs only [pick_nil, pick_cons, look_nil, look_cons, dropB_nil, dropB_cons, inD_nil, inD_cons, inE_nil, inE_cons, or_t_l, or_f_l, Nat.reduceBEq, Nat.reduceDiv, Nat.reduceAdd, beq_self_eq_true, Bool.false_eq_true, Bool.or_false, ↓reduceIte, Nat.reduceEqDiff, List.cons_append, List.nil_append]
            simp -dsimp -implicitDefEqProofs only [go_sem, ↓reduceIte, Nat.reduceEqDiff, Nat.reduceLT, Nat.reduceAdd, Nat.reduceMul, Nat.reduceLeDiff, Nat.le_refl, Int.natCast_zero, Int.toNat_natCast, Int.reduceToNat]
            repeat' (with_reducible refine And.intro ?_ ?_)
            all_goals try (first | omega | (simp; done))
            (refine sCallT_io [1000000000] ?_; simp -dsimp -implicitDefEqProofs only [go_sem, ↓reduceIte, Nat.reduceEqDiff, Nat.reduceLT, Nat.reduceAdd, Nat.reduceMul, Nat.reduceLeDiff, Nat.le_refl, Int.natCast_zero, Int.toNat_natCast, Int.reduceToNat]; refine sCallM_one (hcn _) ?_; simp -dsimp -implicitDefEqProofs only [go_sem, ↓reduceIte, Nat.reduceEqDiff, Nat.reduceLT, Nat.reduceAdd, Nat.reduceMul, Nat.reduceLeDiff, Nat.le_refl, Int.natCast_zero, Int.toNat_natCast, Int.reduceToNat])
            repeat' (with_reducible refine And.intro ?_ ?_)
            all_goals try (first | omega | (refine ⟨?_, ?_⟩ <;> omega))
            rcases hlt : decide ((out.length : Int) < 60 + y.1) with _ | _
            · have hlt1 := of_decide_eq_false hlt
              rw [if_neg hlt1] at q4
              subst q4
              simp -dsimp -implicitDefEqProofs only [go_sem, ↓reduceIte, Nat.reduceEqDiff, Nat.reduceLT, Nat.reduceAdd, Nat.reduceMul, Nat.reduceLeDiff, Nat.le_refl, Int.natCast_zero, Int.toNat_natCast, Int.reduceToNat, hlt]
              all_goals (first | omega | (refine ⟨?_, ?_⟩ <;> omega) | (exact rfl) | (simp; done) | (simp [*]; done) | trace_state)
            · have hlt1 := of_decide_eq_true hlt
              rw [if_pos hlt1] at q4
              simp -dsimp -implicitDefEqProofs only [go_sem, ↓reduceIte, Nat.reduceEqDiff, Nat.reduceLT, Nat.reduceAdd, Nat.reduceMul, Nat.reduceLeDiff, Nat.le_refl, Int.natCast_zero, Int.toNat_natCast, Int.reduceToNat, hlt]
              repeat' (with_reducible refine And.intro ?_ ?_)
              all_goals try (first | omega | (refine ⟨?_, ?_⟩ <;> omega))
              refine ⟨(k, out ++ [⟨0, 0, 0, 0⟩], y.2), ⟨hx.2.2.2, by simp; omega, by simp; omega, q4⟩, by dsimp only; omega, ?_⟩
              simp -dsimp -implicitDefEqProofs only [go_sem, ↓reduceIte, Nat.reduceEqDiff, Nat.reduceLT, Nat.reduceAdd, Nat.reduceMul, Nat.reduceLeDiff, Nat.le_refl, Int.natCast_zero, Int.toNat_natCast, Int.reduceToNat]
              all_goals first | (simp; done) | trace_state
      | true =>
        simp only [if_true]
        simp -dsimp -implicitDefEqProofs only [pick_nil, pick_cons, look_nil, look_cons, dropB_nil, dropB_cons, inD_nil, inD_cons, inE_nil, inE_cons, or_t_l, or_f_l, Nat.reduceBEq, Nat.reduceDiv, Nat.reduceAdd, beq_self_eq_true, Bool.false_eq_true, Bool.or_false, ↓reduceIte, Nat.reduceEqDiff, List.cons_append, List.nil_append]
        simp -dsimp -implicitDefEqProofs only [go_sem, ↓reduceIte, Nat.reduceEqDiff, Nat.reduceLT, Nat.reduceAdd, Nat.reduceMul, Nat.reduceLeDiff, Nat.le_refl, Int.natCast_zero, Int.toNat_natCast, Int.reduceToNat, hk0]
        try dsimp only
        (refine sCallT_io [1000000000] ?_; simp -dsimp -implicitDefEqProofs only [go_sem, ↓reduceIte, Nat.reduceEqDiff, Nat.reduceLT, Nat.reduceAdd, Nat.reduceMul, Nat.reduceLeDiff, Nat.le_refl, Int.natCast_zero, Int.toNat_natCast, Int.reduceToNat]; refine sCallM_one (c_l01Next _ bs 40 _ i1 hl) ?_; simp -dsimp -implicitDefEqProofs only [go_sem, ↓reduceIte, Nat.reduceEqDiff, Nat.reduceLT, Nat.reduceAdd, Nat.reduceMul, Nat.reduceLeDiff, Nat.le_refl, Int.natCast_zero, Int.toNat_natCast, Int.reduceToNat])
        have hco := (nx_ok bs 40 i1).2.2.2
        generalize nx bs 40 s = c at *
        rcases hc : (c.1 == 0) with _ | _
        · have hc1 : ¬ c.1 = 0 := by simpa using hc
          rw [if_neg (fun h => hc1 h.1)]
          simp -dsimp -implicitDefEqProofs only [go_sem, ↓reduceIte, Nat.reduceEqDiff, Nat.reduceLT, Nat.reduceAdd, Nat.reduceMul, Nat.reduceLeDiff, Nat.le_refl, Int.natCast_zero, Int.toNat_natCast, Int.reduceToNat, hc]
          all_goals (first | omega | (refine ⟨?_, ?_⟩ <;> omega) | (exact rfl) | (simp; done) | (simp [*]; done) | trace_state)
        rcases hT0 : decide ((r.tags.length : Int) > 0) with _ | _
        · have hT1 := of_decide_eq_false hT0
          rw [if_neg (fun h => hT1 (by omega))]
          simp -dsimp -implicitDefEqProofs only [go_sem, ↓reduceIte, Nat.reduceEqDiff, Nat.reduceLT, Nat.reduceAdd, Nat.reduceMul, Nat.reduceLeDiff, Nat.le_refl, Int.natCast_zero, Int.toNat_natCast, Int.reduceToNat, hc, hT0]
          repeat' (with_reducible refine And.intro ?_ ?_)
          all_goals (first | omega | (refine ⟨?_, ?_⟩ <;> omega) | (exact rfl) | (simp; done) | (simp [*]; done) | trace_state)
        have hT1 := of_decide_eq_true hT0
        rw [if_pos ⟨by simpa using hc, by omega⟩]
        simp -dsimp -implicitDefEqProofs only [go_sem, ↓reduceIte, Nat.reduceEqDiff, Nat.reduceLT, Nat.reduceAdd, Nat.reduceMul, Nat.reduceLeDiff, Nat.le_refl, Int.natCast_zero, Int.toNat_natCast, Int.reduceToNat, hc, hT0]
        repeat' (with_reducible refine And.intro ?_ ?_)
        all_goals try (first | omega | (simp; done))
        have hfl := fillE_ok bs 62 out c.2 hco (by omega)
        obtain ⟨z, hz⟩ : ∃ z, fillE bs 62 out c.2 = z := ⟨_, rfl⟩
        rw [hz] at hfl ⊢
        refine Later.lp [0] [51, 53, 58, 59] [11, 1000000000] (fun x : Nat × List EvM × Src => SrcOk x.2.2 ∧ x.2.1.length ≤ 61 ∧ 62 ≤ x.1 + x.2.1.length ∧ fillE bs x.1 x.2.1 x.2.2 = z)
          (fun x => [(5, .ref 11 0 0 x.2.1.length)]) (fun x => [(11, .row 0 ⟨4, true⟩ true (x.2.1.map eEv)), (1000000000, srcB v bs x.2.2)]) (fun x => x.1) (62, out, c.2) ⟨hco, by dsimp only; omega, by dsimp only; omega, hz⟩ ?_ rfl (fun x hI => ?_)
        · simp -dsimp -implicitDefEqProofs only [go_sem, ↓reduceIte, Nat.reduceEqDiff, Nat.reduceLT, Nat.reduceAdd, Nat.reduceMul, Nat.reduceLeDiff, Nat.le_refl, Int.natCast_zero, Int.toNat_natCast, Int.reduceToNat]
        · obtain ⟨k, out, s⟩ := x
          obtain ⟨q1, q2, q3, q4⟩ := hI
          dsimp only at q1 q2 q3 q4 ⊢
          clear hz
          cases k with
          | zero => exact absurd q3 (by omega)
          | succ k =>
            rw [fillE] at q4
            have hx := nx_ok bs 2 q1
            have hx2 := hx.2.2.1 (by omega)
            have hcn := fun v => c_l01Next v bs 2 s q1 hl
            generalize nx bs 2 s = y at *
            simp -dsimp -implicitDefEqProofs only [pick_nil, pick_cons, look_nil, look_cons, dropB_nil, dropB_cons, inD_nil, inD_cons, inE_nil, inE_cons, or_t_l, or_f_l, Nat.reduceBEq, Nat.reduceDiv, Nat.reduceAdd, beq_self_eq_true, Bool.false_eq_true, Bool.or_false, ↓reduceIte, Nat.reduceEqDiff, List.cons_append, List.nil_append]
            simp -dsimp -implicitDefEqProofs only [go_sem, ↓reduceIte, Nat.reduceEqDiff, Nat.reduceLT, Nat.reduceAdd, Nat.reduceMul, Nat.reduceLeDiff, Nat.le_refl, Int.natCast_zero, Int.toNat_natCast, Int.reduceToNat]
            repeat' (with_reducible refine And.intro ?_ ?_)
            all_goals try (first | omega | (simp; done))
            (refine sCallT_io [1000000000] ?_; simp -dsimp -implicitDefEqProofs only [go_sem, ↓reduceIte, Nat.reduceEqDiff, Nat.reduceLT, Nat.reduceAdd, Nat.reduceMul, Nat.reduceLeDiff, Nat.le_refl, Int.natCast_zero, Int.toNat_natCast, Int.reduceToNat]; refine sCallM_one (hcn _) ?_; simp -dsimp -implicitDefEqProofs only [go_sem, ↓reduceIte, Nat.reduceEqDiff, Nat.reduceLT, Nat.reduceAdd, Nat.reduceMul, Nat.reduceLeDiff, Nat.le_refl, Int.natCast_zero, Int.toNat_natCast, Int.reduceToNat])
            repeat' (with_reducible refine And.intro ?_ ?_)
            all_goals try (first | omega | (refine ⟨?_, ?_⟩ <;> omega))
            rcases hlt : decide ((out.length : Int) < 60 + y.1) with _ | _
            · have hlt1 := of_decide_eq_false hlt
              rw [if_neg hlt1] at q4
              subst q4
              simp -dsimp -implicitDefEqProofs only [go_sem, ↓reduceIte, Nat.reduceEqDiff, Nat.reduceLT, Nat.reduceAdd, Nat.reduceMul, Nat.reduceLeDiff, Nat.le_refl, Int.natCast_zero, Int.toNat_natCast, Int.reduceToNat, hlt]
              all_goals (first | omega | (refine ⟨?_, ?_⟩ <;> omega) | (exact rfl) | (simp; done) | (simp [*]; done) | trace_state)
            · have hlt1 := of_decide_eq_true hlt
              rw [if_pos hlt1] at q4
              simp -dsimp -implicitDefEqProofs only [go_sem, ↓reduceIte, Nat.reduceEqDiff, Nat.reduceLT, Nat.reduceAdd, Nat.reduceMul, Nat.reduceLeDiff, Nat.le_refl, Int.natCast_zero, Int.toNat_natCast, Int.reduceToNat, hlt]
              repeat' (with_reducible refine And.intro ?_ ?_)
              all_goals try (first | omega | (refine ⟨?_, ?_⟩ <;> omega))
              refine ⟨(k, out ++ [⟨0, 0, 0, 0⟩], y.2), ⟨hx.2.2.2, by simp; omega, by simp; omega, q4⟩, by dsimp only; omega, ?_⟩
              simp -dsimp -implicitDefEqProofs only [go_sem, ↓reduceIte, Nat.reduceEqDiff, Nat.reduceLT, Nat.reduceAdd, Nat.reduceMul, Nat.reduceLeDiff, Nat.le_refl, Int.natCast_zero, Int.toNat_natCast, Int.reduceToNat]
              all_goals first | (simp; done) | trace_state
    | succ k =>
      have hk0 : decide (((k + 1 : Nat) : Int) > 0) = true := decide_eq_true (by omega)
      rcases hT0 : decide ((r.tags.length : Int) > 0) with _ | _
      · have hT1 := of_decide_eq_false hT0
        have hbe : (out, s) = b := by
          rw [← i5, if_neg (by omega)]
        subst hbe
        clear i5 hB
        cases own with
        | false =>
          simp only [Bool.false_eq_true, if_false]
          simp -dsimp -implicitDefEqProofs only [pick_nil, pick_cons, look_nil, look_cons, dropB_nil, dropB_cons, inD_nil, inD_cons, inE_nil, inE_cons, or_t_l, or_f_l, Nat.reduceBEq, Nat.reduceDiv, Nat.reduceAdd, beq_self_eq_true, Bool.false_eq_true, Bool.or_false, ↓reduceIte, Nat.reduceEqDiff, List.cons_append, List.nil_append]
          simp -dsimp -implicitDefEqProofs only [go_sem, ↓reduceIte, Nat.reduceEqDiff, Nat.reduceLT, Nat.reduceAdd, Nat.reduceMul, Nat.reduceLeDiff, Nat.le_refl, Int.natCast_zero, Int.toNat_natCast, Int.reduceToNat, hk0, hT0]
          clear hT0 hT1
          try dsimp only
          (refine sCallT_io [1000000000] ?_; simp -dsimp -implicitDefEqProofs only [go_sem, ↓reduceIte, Nat.reduceEqDiff, Nat.reduceLT, Nat.reduceAdd, Nat.reduceMul, Nat.reduceLeDiff, Nat.le_refl, Int.natCast_zero, Int.toNat_natCast, Int.reduceToNat]; refine sCallM_one (c_l01Next _ bs 40 _ i1 hl) ?_; simp -dsimp -implicitDefEqProofs only [go_sem, ↓reduceIte, Nat.reduceEqDiff, Nat.reduceLT, Nat.reduceAdd, Nat.reduceMul, Nat.reduceLeDiff, Nat.le_refl, Int.natCast_zero, Int.toNat_natCast, Int.reduceToNat])
          have hco := (nx_ok bs 40 i1).2.2.2
          generalize nx bs 40 s = c at *
          rcases hc : (c.1 == 0) with _ | _
          · have hc1 : ¬ c.1 = 0 := by simpa using hc
            rw [if_neg (fun h => hc1 h.1)]
            simp -dsimp -implicitDefEqProofs only [go_sem, ↓reduceIte, Nat.reduceEqDiff, Nat.reduceLT, Nat.reduceAdd, Nat.reduceMul, Nat.reduceLeDiff, Nat.le_refl, Int.natCast_zero, Int.toNat_natCast, Int.reduceToNat, hc]
            all_goals (first | omega | (refine ⟨?_, ?_⟩ <;> omega) | (exact rfl) | (simp; done) | (simp [*]; done) | trace_state)
          rcases hT0 : decide ((r.tags.length : Int) > 0) with _ | _
          · have hT1 := of_decide_eq_false hT0
            rw [if_neg (fun h => hT1 (by omega))]
            simp -dsimp -implicitDefEqProofs only [go_sem, ↓reduceIte, Nat.reduceEqDiff, Nat.reduceLT, Nat.reduceAdd, Nat.reduceMul, Nat.reduceLeDiff, Nat.le_refl, Int.natCast_zero, Int.toNat_natCast, Int.reduceToNat, hc, hT0]
            repeat' (with_reducible refine And.intro ?_ ?_)
            all_goals (first | omega | (refine ⟨?_, ?_⟩ <;> omega) | (exact rfl) | (simp; done) | (simp [*]; done) | trace_state)
          have hT1 := of_decide_eq_true hT0
          rw [if_pos ⟨by simpa using hc, by omega⟩]
          simp -dsimp -implicitDefEqProofs only [go_sem, ↓reduceIte, Nat.reduceEqDiff, Nat.reduceLT, Nat.reduceAdd, Nat.reduceMul, Nat.reduceLeDiff, Nat.le_refl, Int.natCast_zero, Int.toNat_natCast, Int.reduceToNat, hc, hT0]
          repeat' (with_reducible refine And.intro ?_ ?_)
          all_goals try (first | omega | (simp; done))
          have hfl := fillE_ok bs 62 out c.2 hco (by omega)
          obtain ⟨z, hz⟩ : ∃ z, fillE bs 62 out c.2 = z := ⟨_, rfl⟩
          rw [hz] at hfl ⊢
          refine Later.lp [0] [51, 53, 58, 59] [11, 1000000000] (fun x : Nat × List EvM × Src => SrcOk x.2.2 ∧ x.2.1.length ≤ 61 ∧ 62 ≤ x.1 + x.2.1.length ∧ fillE bs x.1 x.2.1 x.2.2 = z)
            (fun x => [(5, .ref 11 0 0 x.2.1.length)]) (fun x => [(11, .row 0 ⟨4, true⟩ true (x.2.1.map eEv)), (1000000000, srcB v bs x.2.2)]) (fun x => x.1) (62, out, c.2) ⟨hco, by dsimp only; omega, by dsimp only; omega, hz⟩ ?_ rfl (fun x hI => ?_)
          · simp -dsimp -implicitDefEqProofs only [go_sem, ↓reduceIte, Nat.reduceEqDiff, Nat.reduceLT, Nat.reduceAdd, Nat.reduceMul, Nat.reduceLeDiff, Nat.le_refl, Int.natCast_zero, Int.toNat_natCast, Int.reduceToNat]
          · obtain ⟨k, out, s⟩ := x
            obtain ⟨q1, q2, q3, q4⟩ := hI
            dsimp only at q1 q2 q3 q4 ⊢
            clear hz
            cases k with
            | zero => exact absurd q3 (by omega)
            | succ k =>
              rw [fillE] at q4
              have hx := nx_ok bs 2 q1
              have hx2 := hx.2.2.1 (by omega)
              have hcn := fun v => c_l01Next v bs 2 s q1 hl
              generalize nx bs 2 s = y at *
              simp -dsimp -implicitDefEqProofs only [pick_nil, pick_cons, look_nil, look_cons, dropB_nil, dropB_cons, inD_nil, inD_cons, inE_nil, inE_cons, or_t_l, or_f_l, Nat.reduceBEq, Nat.reduceDiv, Nat.reduceAdd, beq_self_eq_true, Bool.false_eq_true, Bool.or_false, ↓reduceIte, Nat.reduceEqDiff, List.cons_append, List.nil_append]
              simp -dsimp -implicitDefEqProofs only [go_sem, ↓reduceIte, Nat.reduceEqDiff, Nat.reduceLT, Nat.reduceAdd, Nat.reduceMul, Nat.reduceLeDiff, Nat.le_refl, Int.natCast_zero, Int.toNat_natCast, Int.reduceToNat]
              repeat' (with_reducible refine And.intro ?_ ?_)
              all_goals try (first | omega | (simp; done))
              (refine sCallT_io [1000000000] ?_; simp -dsimp -implicitDefEqProofs only [go_sem, ↓reduceIte, Nat.reduceEqDiff, Nat.reduceLT, Nat.reduceAdd, Nat.reduceMul, Nat.reduceLeDiff, Nat.le_refl, Int.natCast_zero, Int.toNat_natCast, Int.reduceToNat]; refine sCallM_one (hcn _) ?_; simp -dsimp -implicitDefEqProofs only [go_sem, ↓reduceIte, Nat.reduceEqDiff, Nat.reduceLT, Nat.reduceAdd, Nat.reduceMul, Nat.reduceLeDiff, Nat.le_refl, Int.natCast_zero, Int.toNat_natCast, Int.reduceToNat])
              repeat' (with_reducible refine And.intro ?_ ?_)
              all_goals try (first | omega | (refine ⟨?_, ?_⟩ <;> omega))
              rcases hlt : decide ((out.length : Int) < 60 + y.1) with _ | _
              · have hlt1 := of_decide_eq_false hlt
                rw [if_neg hlt1] at q4
                subst q4
                simp -dsimp -implicitDefEqProofs only [go_sem, ↓reduceIte, Nat.reduceEqDiff, Nat.reduceLT, Nat.reduceAdd, Nat.reduceMul, Nat.reduceLeDiff, Nat.le_refl, Int.natCast_zero, Int.toNat_natCast, Int.reduceToNat, hlt]
                all_goals (first | omega | (refine ⟨?_, ?_⟩ <;> omega) | (exact rfl) | (simp; done) | (simp [*]; done) | trace_state)
              · have hlt1 := of_decide_eq_true hlt
                rw [if_pos hlt1] at q4
                simp -dsimp -implicitDefEqProofs only [go_sem, ↓reduceIte, Nat.reduceEqDiff, Nat.reduceLT, Nat.reduceAdd, Nat.reduceMul, Nat.reduceLeDiff, Nat.le_refl, Int.natCast_zero, Int.toNat_natCast, Int.reduceToNat, hlt]
                repeat' (with_reducible refine And.intro ?_ ?_)
                all_goals try (first | omega | (refine ⟨?_, ?_⟩ <;> omega))
                refine ⟨(k, out ++ [⟨0, 0, 0, 0⟩], y.2), ⟨hx.2.2.2, by simp; omega, by simp; omega, q4⟩, by dsimp only; omega, ?_⟩
                simp -dsimp -implicitDefEqProofs only [go_sem, ↓reduceIte, Nat.reduceEqDiff, Nat.reduceLT, Nat.reduceAdd, Nat.reduceMul, Nat.reduceLeDiff, Nat.le_refl, Int.natCast_zero, Int.toNat_natCast, Int.reduceToNat]
                all_goals first | (simp; done) | trace_state
        | true => exact absurd (i7 rfl) (by omega)
      · have hT1 := of_decide_eq_true hT0
        rw [if_pos (by omega), drawEvs] at i5
        have hde := fun v v2 v3 d2 d3 => c_l30DrawEvent v v2 v3 d2 d3 bs now.tags now.roles s i1 hl (by omega) (by rw [i3]; exact hR)
        have hdo := drawEvent_ok bs now.tags now.roles i1
        have hrl : now.roles.length ≤ 1048576 := by rw [i3]; exact hR
        generalize drawEvent bs now.tags now.roles s = p at *
        cases own with
        | false =>
          have e := i6 rfl
          subst e
          simp only [Bool.false_eq_true, if_false]
          simp -dsimp -implicitDefEqProofs only [pick_nil, pick_cons, look_nil, look_cons, dropB_nil, dropB_cons, inD_nil, inD_cons, inE_nil, inE_cons, or_t_l, or_f_l, Nat.reduceBEq, Nat.reduceDiv, Nat.reduceAdd, beq_self_eq_true, Bool.false_eq_true, Bool.or_false, ↓reduceIte, Nat.reduceEqDiff, List.cons_append, List.nil_append]
          simp -dsimp -implicitDefEqProofs only [go_sem, ↓reduceIte, Nat.reduceEqDiff, Nat.reduceLT, Nat.reduceAdd, Nat.reduceMul, Nat.reduceLeDiff, Nat.le_refl, Int.natCast_zero, Int.toNat_natCast, Int.reduceToNat, hk0, hT0]
          refine sCallT_io [1000000000, 1000000001, 1000000002] ?_
          simp -dsimp -implicitDefEqProofs only [go_sem, ↓reduceIte, Nat.reduceEqDiff, Nat.reduceLT, Nat.reduceAdd, Nat.reduceMul, Nat.reduceLeDiff, Nat.le_refl, Int.natCast_zero, Int.toNat_natCast, Int.reduceToNat]
          refine sCallM_one (hde _ _ _ _ _) ?_
          clear hde
          simp -dsimp -implicitDefEqProofs only [go_sem, ↓reduceIte, Nat.reduceEqDiff, Nat.reduceLT, Nat.reduceAdd, Nat.reduceMul, Nat.reduceLeDiff, Nat.le_refl, Int.natCast_zero, Int.toNat_natCast, Int.reduceToNat]
          repeat' first
            | (with_reducible refine And.intro ?_ ?_)
            | (refine sCallT_one (c_sApplyEvent now p.1 (by omega) (by omega)) ?_; try simp -dsimp -implicitDefEqProofs only [go_sem, ↓reduceIte, Nat.reduceEqDiff, Nat.reduceLT, Nat.reduceAdd, Nat.reduceMul, Nat.reduceLeDiff, Nat.le_refl, Int.natCast_zero, Int.toNat_natCast, Int.reduceToNat, *])
          all_goals try (first | omega | (simp; done))
          rcases hcd : ((applyEvent now p.1).2 == 0) with _ | _
          · have hna : nowAfter now p.1 = now := by rw [nowAfter, if_neg (by simpa using hcd)]
            rw [hna] at i5
            clear hna
            simp -dsimp -implicitDefEqProofs only [go_sem, ↓reduceIte, Nat.reduceEqDiff, Nat.reduceLT, Nat.reduceAdd, Nat.reduceMul, Nat.reduceLeDiff, Nat.le_refl, Int.natCast_zero, Int.toNat_natCast, Int.reduceToNat, hcd]
            repeat' (with_reducible refine And.intro ?_ ?_)
            all_goals try (first | omega | (refine ⟨?_, ?_⟩ <;> omega))
            refine ⟨⟨false, k, now, out ++ [p.1], p.2⟩, ⟨hdo, i2, i3, by simp; omega, by rw [if_pos (by omega)]; exact i5, i6, fun _ => by omega⟩, Nat.lt_succ_self k, .here ?_⟩
            simp only [Bool.false_eq_true, if_false]
            simp -dsimp -implicitDefEqProofs only [go_sem, ↓reduceIte, Nat.reduceEqDiff, Nat.reduceLT, Nat.reduceAdd, Nat.reduceMul, Nat.reduceLeDiff, Nat.le_refl, Int.natCast_zero, Int.toNat_natCast, Int.reduceToNat]
            all_goals first | (simp; done) | omega | (exact ⟨rfl, rfl⟩) | (simp [i2, i3]; done) | trace_state
          · have hna : nowAfter now p.1 = (applyEvent now p.1).1 := by rw [nowAfter, if_pos (by simpa using hcd)]
            rw [hna] at i5
            have hap := applyEvent_len now p.1 (by simpa using hcd)
            obtain ⟨l1, l2, _⟩ := hap
            clear hna
            generalize (applyEvent now p.1).1 = nw at *
            simp -dsimp -implicitDefEqProofs only [go_sem, ↓reduceIte, Nat.reduceEqDiff, Nat.reduceLT, Nat.reduceAdd, Nat.reduceMul, Nat.reduceLeDiff, Nat.le_refl, Int.natCast_zero, Int.toNat_natCast, Int.reduceToNat, hcd]
            repeat' (with_reducible refine And.intro ?_ ?_)
            all_goals try (first | omega | (refine ⟨?_, ?_⟩ <;> omega))
            refine ⟨⟨true, k, nw, out ++ [p.1], p.2⟩, ⟨hdo, l1.trans i2, l2.trans i3, by simp; omega, by rw [if_pos (by omega)]; exact i5, fun h => (by cases h), fun _ => by omega⟩, Nat.lt_succ_self k, .two 36000 700 36001 701 (by decide) (by decide) (by decide) (by decide) ?_⟩
            simp only [if_true]
            simp -dsimp -implicitDefEqProofs only [go_sem, ↓reduceIte, Nat.reduceEqDiff, Nat.reduceLT, Nat.reduceAdd, Nat.reduceMul, Nat.reduceLeDiff, Nat.le_refl, Int.natCast_zero, Int.toNat_natCast, Int.reduceToNat]
            all_goals first | (simp; done) | omega | (exact ⟨rfl, rfl⟩) | (simp [i2, i3]; done) | trace_state
        | true =>
          simp only [if_true]
          simp -dsimp -implicitDefEqProofs only [pick_nil, pick_cons, look_nil, look_cons, dropB_nil, dropB_cons, inD_nil, inD_cons, inE_nil, inE_cons, or_t_l, or_f_l, Nat.reduceBEq, Nat.reduceDiv, Nat.reduceAdd, beq_self_eq_true, Bool.false_eq_true, Bool.or_false, ↓reduceIte, Nat.reduceEqDiff, List.cons_append, List.nil_append]
          simp -dsimp -implicitDefEqProofs only [go_sem, ↓reduceIte, Nat.reduceEqDiff, Nat.reduceLT, Nat.reduceAdd, Nat.reduceMul, Nat.reduceLeDiff, Nat.le_refl, Int.natCast_zero, Int.toNat_natCast, Int.reduceToNat, hk0, hT0]
          refine sCallT_io [1000000000, 700, 701] ?_
          simp -dsimp -implicitDefEqProofs only [go_sem, ↓reduceIte, Nat.reduceEqDiff, Nat.reduceLT, Nat.reduceAdd, Nat.reduceMul, Nat.reduceLeDiff, Nat.le_refl, Int.natCast_zero, Int.toNat_natCast, Int.reduceToNat]
          refine sCallM_one (hde _ _ _ _ _) ?_
          clear hde
          simp -dsimp -implicitDefEqProofs only [go_sem, ↓reduceIte, Nat.reduceEqDiff, Nat.reduceLT, Nat.reduceAdd, Nat.reduceMul, Nat.reduceLeDiff, Nat.le_refl, Int.natCast_zero, Int.toNat_natCast, Int.reduceToNat]
          repeat' first
            | (with_reducible refine And.intro ?_ ?_)
            | (refine sCallT_one (c_sApplyEvent now p.1 (by omega) (by omega)) ?_; try simp -dsimp -implicitDefEqProofs only [go_sem, ↓reduceIte, Nat.reduceEqDiff, Nat.reduceLT, Nat.reduceAdd, Nat.reduceMul, Nat.reduceLeDiff, Nat.le_refl, Int.natCast_zero, Int.toNat_natCast, Int.reduceToNat, *])
          all_goals try (first | omega | (simp; done))
          rcases hcd : ((applyEvent now p.1).2 == 0) with _ | _
          · have hna : nowAfter now p.1 = now := by rw [nowAfter, if_neg (by simpa using hcd)]
            rw [hna] at i5
            clear hna
            simp -dsimp -implicitDefEqProofs only [go_sem, ↓reduceIte, Nat.reduceEqDiff, Nat.reduceLT, Nat.reduceAdd, Nat.reduceMul, Nat.reduceLeDiff, Nat.le_refl, Int.natCast_zero, Int.toNat_natCast, Int.reduceToNat, hcd]
            repeat' (with_reducible refine And.intro ?_ ?_)
            all_goals try (first | omega | (refine ⟨?_, ?_⟩ <;> omega))
            refine ⟨⟨true, k, now, out ++ [p.1], p.2⟩, ⟨hdo, i2, i3, by simp; omega, by rw [if_pos (by omega)]; exact i5, i6, fun _ => by omega⟩, Nat.lt_succ_self k, .here ?_⟩
            simp only [if_true]
            simp -dsimp -implicitDefEqProofs only [go_sem, ↓reduceIte, Nat.reduceEqDiff, Nat.reduceLT, Nat.reduceAdd, Nat.reduceMul, Nat.reduceLeDiff, Nat.le_refl, Int.natCast_zero, Int.toNat_natCast, Int.reduceToNat]
            all_goals first | (simp; done) | omega | (exact ⟨rfl, rfl⟩) | (simp [i2, i3]; done) | trace_state
          · have hna : nowAfter now p.1 = (applyEvent now p.1).1 := by rw [nowAfter, if_pos (by simpa using hcd)]
            rw [hna] at i5
            have hap := applyEvent_len now p.1 (by simpa using hcd)
            obtain ⟨l1, l2, _⟩ := hap
            clear hna
            generalize (applyEvent now p.1).1 = nw at *
            simp -dsimp -implicitDefEqProofs only [go_sem, ↓reduceIte, Nat.reduceEqDiff, Nat.reduceLT, Nat.reduceAdd, Nat.reduceMul, Nat.reduceLeDiff, Nat.le_refl, Int.natCast_zero, Int.toNat_natCast, Int.reduceToNat, hcd]
            repeat' (with_reducible refine And.intro ?_ ?_)
            all_goals try (first | omega | (refine ⟨?_, ?_⟩ <;> omega))
            refine ⟨⟨true, k, nw, out ++ [p.1], p.2⟩, ⟨hdo, l1.trans i2, l2.trans i3, by simp; omega, by rw [if_pos (by omega)]; exact i5, fun h => (by cases h), fun _ => by omega⟩, Nat.lt_succ_self k, .two 36000 700 36001 701 (by decide) (by decide) (by decide) (by decide) ?_⟩
            simp only [if_true]
            simp -dsimp -implicitDefEqProofs only [go_sem, ↓reduceIte, Nat.reduceEqDiff, Nat.reduceLT, Nat.reduceAdd, Nat.reduceMul, Nat.reduceLeDiff, Nat.le_refl, Int.natCast_zero, Int.toNat_natCast, Int.reduceToNat]
            all_goals first | (simp; done) | omega | (exact ⟨rfl, rfl⟩) | (simp [i2, i3]; done) | trace_state
end Go.Vc


/-
  Contracts: registers that are drawn.
-/
set_option linter.unusedVariables false
set_option linter.unusedSimpArgs false
set_option linter.unnecessarySimpa false
namespace Go.Vc
open Go.Proofs
set_option maxRecDepth 100000
attribute [local irreducible] drawEvent
theorem isReg_apply {r : RegM} {e : EvM} (hr : isReg r = true) (he : isEv r e = true) (hc : canEv r e = true) : isReg (applyEv r e) = true := by
  have hin := isEv_in he
  have ht : isTag (tagOf r e) r.roles.length = true := by
    have := hr
    simp only [isReg, Bool.and_eq_true, List.all_eq_true] at this
    exact this.2 _ (List.mem_of_getElem? (tag_get he))
  have hn : isTag (applyTag (tagOf r e) e) r.roles.length = true := by
    simp only [canEv, Bool.and_eq_true, beq_iff_eq] at hc
    have h2 := hc.2
    simp only [isEv, isEvent, Bool.and_eq_true] at he
    simp only [isTag, Bool.and_eq_true] at ht ⊢
    unfold applyTag
    by_cases k0 : e.kind = 0
    · have hp := he.2
      rw [if_pos k0] at hp ⊢
      exact ⟨ht.1, by simpa using hp⟩
    rw [if_neg k0]
    by_cases k2 : e.kind = 2
    · rw [if_pos k2]
      have hs : (tagOf r e).state = 1 := by rw [h2, before, if_pos (.inr k2)]
      have hp := ht.2
      rw [hs] at hp
      exact ⟨ht.1, by simpa using hp⟩
    rw [if_neg k2]
    split
    · exact ⟨ht.1, by simp⟩
    · exact ⟨ht.1, by simp⟩
  simp only [isReg, Bool.and_eq_true, List.all_eq_true] at hr ⊢
  refine ⟨⟨⟨?_, hr.1.1.2⟩, hr.1.2⟩, fun t htm => ?_⟩
  · simpa [applyEv] using hr.1.1.1
  · simp only [applyEv] at htm ⊢
    rcases List.mem_or_eq_of_mem_set htm with h | h
    · exact hr.2 t h
    · rw [h]; exact hn
theorem isReg_num {r : RegM} (h : isReg r = true) : r.tags.length ≤ 20 ∧ 1 ≤ r.roles.length ∧ r.roles.length ≤ 10 := by
  simp only [isReg, Bool.and_eq_true, isIn, decide_eq_true_eq] at h
  omega
theorem isReg_new {rows roles : List Int} (h1 : rows.length ≤ 20) (h2 : ∀ x ∈ rows, 0 ≤ x ∧ x ≤ 9) (h3 : 1 ≤ roles.length ∧ roles.length ≤ 10) (h4 : ∀ x ∈ roles, 0 ≤ x ∧ x ≤ 2) : isReg (newReg rows roles) = true := by
  simp only [isReg, Bool.and_eq_true, List.all_eq_true, newReg, List.length_map, decide_eq_true_eq]
  refine ⟨⟨⟨h1, ?_⟩, fun x hx => ?_⟩, fun t ht => ?_⟩
  · simp [isIn]; omega
  · have := h4 x hx; simp [isIn]; omega
  · obtain ⟨x, hx, rfl⟩ := List.mem_map.1 ht
    have := h2 x hx
    simp [isTag, isIn]; omega
set_option maxHeartbeats 4000000 in
theorem c_l30Start (v : Nat) (bs : List UInt8) (s : Src) (h : SrcOk s) (hl : bs.length ≤ 4096) :
    FnM Try.prog 35 [srcB v bs s] [.ptr 1000000000 v 0 0] (fun x io => ∃ (r : RegM) (s' : Src), SrcOk s' ∧ isReg r = true ∧ x = eReg r ∧ io = [srcB v bs s']) := by
  refine FnM.of_vc 40 [.cell 2 27] Try.func35 rfl rfl rfl rfl rfl (of_decide_eq_true rfl) ?_
  have h1 := nx_ok bs 7 h
  have h2 := h1.2.2.1 (by omega)
  simp -dsimp -implicitDefEqProofs only [go_sem, ↓reduceIte, Nat.reduceEqDiff, Nat.reduceLT, Nat.reduceAdd, Nat.reduceMul, Nat.reduceLeDiff, Nat.le_refl, Int.natCast_zero, Int.toNat_natCast, Int.reduceToNat]
  repeat' (with_reducible refine And.intro ?_ ?_)
  (refine sCallT_io [1000000000] ?_; simp -dsimp -implicitDefEqProofs only [go_sem, ↓reduceIte, Nat.reduceEqDiff, Nat.reduceLT, Nat.reduceAdd, Nat.reduceMul, Nat.reduceLeDiff, Nat.le_refl, Int.natCast_zero, Int.toNat_natCast, Int.reduceToNat]; refine sCallM_one (c_l01Next _ bs 7 _ h hl) ?_; simp -dsimp -implicitDefEqProofs only [go_sem, ↓reduceIte, Nat.reduceEqDiff, Nat.reduceLT, Nat.reduceAdd, Nat.reduceMul, Nat.reduceLeDiff, Nat.le_refl, Int.natCast_zero, Int.toNat_natCast, Int.reduceToNat])
  generalize nx bs 7 s = a at *
  refine Later.lp [0, 2, 4] [19, 20, 21] [9, 1000000000] (fun x : Nat × List Int × Src => SrcOk x.2.2 ∧ x.1 + x.2.1.length ≤ 6 ∧ ∀ y ∈ x.2.1, 0 ≤ y ∧ y ≤ 9)
    (fun x => [(5, eI x.1), (3, .ref 9 0 0 x.2.1.length)]) (fun x => [(9, .row 0 ⟨1, false⟩ true (x.2.1.map eI)), (1000000000, srcB v bs x.2.2)]) (fun x => x.1) (a.1.toNat, [], a.2) ⟨h1.2.2.2, by simp; omega, fun y hy => by cases hy⟩ ?_ rfl (fun x hI => ?_)
  · dsimp only
    rw [show ((a.1.toNat : Nat) : Int) = a.1 by omega]
    simp -dsimp -implicitDefEqProofs only [go_sem, ↓reduceIte, Nat.reduceEqDiff, Nat.reduceLT, Nat.reduceAdd, Nat.reduceMul, Nat.reduceLeDiff, Nat.le_refl, Int.natCast_zero, Int.toNat_natCast, Int.reduceToNat]
  · obtain ⟨k, rows, s⟩ := x
    obtain ⟨q1, q2, q3⟩ := hI
    dsimp only at q1 q2 q3 ⊢
    clear h1 h2 h
    cases k with
    | zero =>
      have hk0 : decide ((0 : Int) > 0) = false := rfl
      have g1 := nx_ok bs 4 q1
      have g2 := g1.2.2.1 (by omega)
      have hcn := fun v => c_l01Next v bs 4 s q1 hl
      generalize nx bs 4 s = b at *
      simp -dsimp -implicitDefEqProofs only [pick_nil, pick_cons, look_nil, look_cons, dropB_nil, dropB_cons, inD_nil, inD_cons, inE_nil, inE_cons, or_t_l, or_f_l, Nat.reduceBEq, Nat.reduceDiv, Nat.reduceAdd, beq_self_eq_true, Bool.false_eq_true, Bool.or_false, ↓reduceIte, Nat.reduceEqDiff, List.cons_append, List.nil_append]
      simp -dsimp -implicitDefEqProofs only [go_sem, ↓reduceIte, Nat.reduceEqDiff, Nat.reduceLT, Nat.reduceAdd, Nat.reduceMul, Nat.reduceLeDiff, Nat.le_refl, Int.natCast_zero, Int.toNat_natCast, Int.reduceToNat, hk0]
      (refine sCallT_io [1000000000] ?_; simp -dsimp -implicitDefEqProofs only [go_sem, ↓reduceIte, Nat.reduceEqDiff, Nat.reduceLT, Nat.reduceAdd, Nat.reduceMul, Nat.reduceLeDiff, Nat.le_refl, Int.natCast_zero, Int.toNat_natCast, Int.reduceToNat]; refine sCallM_one (hcn _) ?_; simp -dsimp -implicitDefEqProofs only [go_sem, ↓reduceIte, Nat.reduceEqDiff, Nat.reduceLT, Nat.reduceAdd, Nat.reduceMul, Nat.reduceLeDiff, Nat.le_refl, Int.natCast_zero, Int.toNat_natCast, Int.reduceToNat])
      refine Later.lp [0, 2, 3] [30, 31, 32] [10, 1000000000] (fun x : Nat × List Int × Src => SrcOk x.2.2 ∧ x.1 + x.2.1.length ≤ 4 ∧ 1 ≤ x.2.1.length ∧ ∀ y ∈ x.2.1, 0 ≤ y ∧ y ≤ 2)
        (fun x => [(6, eI x.1), (4, .ref 10 0 0 x.2.1.length)]) (fun x => [(10, .row 0 ⟨1, false⟩ true (x.2.1.map eI)), (1000000000, srcB v bs x.2.2)]) (fun x => x.1) (b.1.toNat, [2], b.2) ⟨g1.2.2.2, by simp; omega, by simp, fun y hy => by simp at hy; omega⟩ ?_ rfl (fun x hI => ?_)
      · dsimp only
        rw [show ((b.1.toNat : Nat) : Int) = b.1 by omega]
        simp -dsimp -implicitDefEqProofs only [go_sem, ↓reduceIte, Nat.reduceEqDiff, Nat.reduceLT, Nat.reduceAdd, Nat.reduceMul, Nat.reduceLeDiff, Nat.le_refl, Int.natCast_zero, Int.toNat_natCast, Int.reduceToNat]
        all_goals (first | omega | (rw [List.take_of_length_le (by simp)]; simp; done) | (refine ⟨?_, ?_⟩ <;> omega) | (exact rfl) | (simp; done) | (simp [*]; done) | trace_state)
      · obtain ⟨k, roles, s⟩ := x
        obtain ⟨p1, p2, p4, p3⟩ := hI
        dsimp only at p1 p2 p3 p4 ⊢
        clear g1 g2 hcn q1
        cases k with
        | zero =>
          have hk0 : decide ((0 : Int) > 0) = false := rfl
          have hreg := isReg_new (rows := rows) (roles := roles) (by omega) q3 (by omega) p3
          have hnew : newRegister rows roles = (newReg rows roles, 0) := by rw [newRegister, if_pos hreg]
          have hc := c_sNewRegister rows roles (by omega) (by omega)
          rw [hnew] at hc
          simp -dsimp -implicitDefEqProofs only [pick_nil, pick_cons, look_nil, look_cons, dropB_nil, dropB_cons, inD_nil, inD_cons, inE_nil, inE_cons, or_t_l, or_f_l, Nat.reduceBEq, Nat.reduceDiv, Nat.reduceAdd, beq_self_eq_true, Bool.false_eq_true, Bool.or_false, ↓reduceIte, Nat.reduceEqDiff, List.cons_append, List.nil_append]
          simp -dsimp -implicitDefEqProofs only [go_sem, ↓reduceIte, Nat.reduceEqDiff, Nat.reduceLT, Nat.reduceAdd, Nat.reduceMul, Nat.reduceLeDiff, Nat.le_refl, Int.natCast_zero, Int.toNat_natCast, Int.reduceToNat, hk0]
          (refine sCallT_one (hc) ?_; try simp -dsimp -implicitDefEqProofs only [go_sem, ↓reduceIte, Nat.reduceEqDiff, Nat.reduceLT, Nat.reduceAdd, Nat.reduceMul, Nat.reduceLeDiff, Nat.le_refl, Int.natCast_zero, Int.toNat_natCast, Int.reduceToNat, *])
          exact ⟨by simp, by simp, _, _, p1, hreg, rfl, rfl⟩
        | succ k =>
          have hk0 : decide (((k + 1 : Nat) : Int) > 0) = true := decide_eq_true (by omega)
          have g1 := nx_ok bs 3 p1
          have g2 := g1.2.2.1 (by omega)
          have hcn := fun v => c_l01Next v bs 3 s p1 hl
          generalize nx bs 3 s = c at *
          simp -dsimp -implicitDefEqProofs only [pick_nil, pick_cons, look_nil, look_cons, dropB_nil, dropB_cons, inD_nil, inD_cons, inE_nil, inE_cons, or_t_l, or_f_l, Nat.reduceBEq, Nat.reduceDiv, Nat.reduceAdd, beq_self_eq_true, Bool.false_eq_true, Bool.or_false, ↓reduceIte, Nat.reduceEqDiff, List.cons_append, List.nil_append]
          simp -dsimp -implicitDefEqProofs only [go_sem, ↓reduceIte, Nat.reduceEqDiff, Nat.reduceLT, Nat.reduceAdd, Nat.reduceMul, Nat.reduceLeDiff, Nat.le_refl, Int.natCast_zero, Int.toNat_natCast, Int.reduceToNat, hk0]
          (refine sCallT_io [1000000000] ?_; simp -dsimp -implicitDefEqProofs only [go_sem, ↓reduceIte, Nat.reduceEqDiff, Nat.reduceLT, Nat.reduceAdd, Nat.reduceMul, Nat.reduceLeDiff, Nat.le_refl, Int.natCast_zero, Int.toNat_natCast, Int.reduceToNat]; refine sCallM_one (hcn _) ?_; simp -dsimp -implicitDefEqProofs only [go_sem, ↓reduceIte, Nat.reduceEqDiff, Nat.reduceLT, Nat.reduceAdd, Nat.reduceMul, Nat.reduceLeDiff, Nat.le_refl, Int.natCast_zero, Int.toNat_natCast, Int.reduceToNat])
          repeat' (with_reducible refine And.intro ?_ ?_)
          all_goals try (first | omega | (refine ⟨?_, ?_⟩ <;> omega) | (simp; done))
          refine ⟨(k, roles ++ [c.1], c.2), ⟨g1.2.2.2, by simp; omega, by simp, fun y hy => ?_⟩, Nat.lt_succ_self k, ?_⟩
          · rcases List.mem_append.1 hy with hy | hy
            · exact p3 y hy
            · rw [List.mem_singleton] at hy; subst hy; omega
          · simp -dsimp -implicitDefEqProofs only [go_sem, ↓reduceIte, Nat.reduceEqDiff, Nat.reduceLT, Nat.reduceAdd, Nat.reduceMul, Nat.reduceLeDiff, Nat.le_refl, Int.natCast_zero, Int.toNat_natCast, Int.reduceToNat]
            all_goals (first | omega | (rw [List.take_of_length_le (by simp)]; simp; done) | (refine ⟨?_, ?_⟩ <;> omega) | (exact rfl) | (simp; done) | (simp [*]; done) | trace_state)
    | succ k =>
      have hk0 : decide (((k + 1 : Nat) : Int) > 0) = true := decide_eq_true (by omega)
      have g1 := nx_ok bs 4 q1
      have g2 := g1.2.2.1 (by omega)
      have hcn := fun v => c_l01Next v bs 4 s q1 hl
      generalize nx bs 4 s = c at *
      simp -dsimp -implicitDefEqProofs only [pick_nil, pick_cons, look_nil, look_cons, dropB_nil, dropB_cons, inD_nil, inD_cons, inE_nil, inE_cons, or_t_l, or_f_l, Nat.reduceBEq, Nat.reduceDiv, Nat.reduceAdd, beq_self_eq_true, Bool.false_eq_true, Bool.or_false, ↓reduceIte, Nat.reduceEqDiff, List.cons_append, List.nil_append]
      simp -dsimp -implicitDefEqProofs only [go_sem, ↓reduceIte, Nat.reduceEqDiff, Nat.reduceLT, Nat.reduceAdd, Nat.reduceMul, Nat.reduceLeDiff, Nat.le_refl, Int.natCast_zero, Int.toNat_natCast, Int.reduceToNat, hk0]
      (refine sCallT_io [1000000000] ?_; simp -dsimp -implicitDefEqProofs only [go_sem, ↓reduceIte, Nat.reduceEqDiff, Nat.reduceLT, Nat.reduceAdd, Nat.reduceMul, Nat.reduceLeDiff, Nat.le_refl, Int.natCast_zero, Int.toNat_natCast, Int.reduceToNat]; refine sCallM_one (hcn _) ?_; simp -dsimp -implicitDefEqProofs only [go_sem, ↓reduceIte, Nat.reduceEqDiff, Nat.reduceLT, Nat.reduceAdd, Nat.reduceMul, Nat.reduceLeDiff, Nat.le_refl, Int.natCast_zero, Int.toNat_natCast, Int.reduceToNat])
      repeat' (with_reducible refine And.intro ?_ ?_)
      all_goals try (first | omega | (refine ⟨?_, ?_⟩ <;> omega) | (simp; done))
      refine ⟨(k, rows ++ [c.1], c.2), ⟨g1.2.2.2, by simp; omega, fun y hy => ?_⟩, Nat.lt_succ_self k, ?_⟩
      · rcases List.mem_append.1 hy with hy | hy
        · exact q3 y hy
        · rw [List.mem_singleton] at hy; subst hy; omega
      · simp -dsimp -implicitDefEqProofs only [go_sem, ↓reduceIte, Nat.reduceEqDiff, Nat.reduceLT, Nat.reduceAdd, Nat.reduceMul, Nat.reduceLeDiff, Nat.le_refl, Int.natCast_zero, Int.toNat_natCast, Int.reduceToNat]
        all_goals (first | omega | (rw [List.take_of_length_le (by simp)]; simp; done) | (refine ⟨?_, ?_⟩ <;> omega) | (exact rfl) | (simp; done) | (simp [*]; done) | trace_state)
set_option maxHeartbeats 8000000 in
theorem c_l30Draw (v : Nat) (bs : List UInt8) (s : Src) (h : SrcOk s) (hl : bs.length ≤ 4096) :
    FnM Try.prog 18 [srcB v bs s] [.ptr 1000000000 v 0 0] (fun x io => ∃ (r : RegM) (s' : Src), SrcOk s' ∧ r.tags.length ≤ 21 ∧ r.roles.length ≤ 10 ∧ x = eReg r ∧ io = [srcB v bs s']) := by
  refine FnM.nil ?_
  refine FnM.of_vc 73 [.cell 2 27] Try.func18 rfl rfl rfl rfl rfl (of_decide_eq_true rfl) ?_
  simp -dsimp -implicitDefEqProofs only [go_sem, ↓reduceIte, Nat.reduceEqDiff, Nat.reduceLT, Nat.reduceAdd, Nat.reduceMul, Nat.reduceLeDiff, Nat.le_refl, Int.natCast_zero, Int.toNat_natCast, Int.reduceToNat]
  repeat' (with_reducible refine And.intro ?_ ?_)
  refine sCallT_io [1000000000] ?_
  simp -dsimp -implicitDefEqProofs only [go_sem, ↓reduceIte, Nat.reduceEqDiff, Nat.reduceLT, Nat.reduceAdd, Nat.reduceMul, Nat.reduceLeDiff, Nat.le_refl, Int.natCast_zero, Int.toNat_natCast, Int.reduceToNat]
  refine sCallM_any (c_l30Start _ bs s h hl) ?_
  rintro _ _ ⟨r, s1, o1, hr, rfl, rfl⟩
  have hn := isReg_num hr
  simp -dsimp -implicitDefEqProofs only [go_sem, ↓reduceIte, Nat.reduceEqDiff, Nat.reduceLT, Nat.reduceAdd, Nat.reduceMul, Nat.reduceLeDiff, Nat.le_refl, Int.natCast_zero, Int.toNat_natCast, Int.reduceToNat]
  refine sCallT_io [1000000000, 10000, 10001] ?_
  simp -dsimp -implicitDefEqProofs only [go_sem, ↓reduceIte, Nat.reduceEqDiff, Nat.reduceLT, Nat.reduceAdd, Nat.reduceMul, Nat.reduceLeDiff, Nat.le_refl, Int.natCast_zero, Int.toNat_natCast, Int.reduceToNat]
  refine sCallM_one (c_l30DrawEvents _ _ _ bs r s1 o1 hl (by omega) (by omega)) ?_
  have hd := drawEvents_ok bs r o1
  generalize drawEvents bs r s1 = ev at *
  obtain ⟨es, s2⟩ := ev
  dsimp only at hd ⊢
  obtain ⟨o2, hel⟩ := hd
  clear h o1
  simp -dsimp -implicitDefEqProofs only [go_sem, ↓reduceIte, Nat.reduceEqDiff, Nat.reduceLT, Nat.reduceAdd, Nat.reduceMul, Nat.reduceLeDiff, Nat.le_refl, Int.natCast_zero, Int.toNat_natCast, Int.reduceToNat]
  refine Later.lpR [0, 2, 3, 4] [6, 15, 25] [3, 10000, 10001, 26000, 26001] (fun x : Nat × RegM => x.1 ≤ es.length ∧ isReg x.2 = true) (fun x => [(5, eI x.1)])
    (fun x => [(3, .box 0 [.ref 10000 0 0 x.2.tags.length, .ref 10001 0 0 x.2.roles.length]), (10000, .row 0 ⟨3, true⟩ true (x.2.tags.map eTag)), (10001, .row 0 ⟨1, false⟩ true (x.2.roles.map eI))])
    (fun x => es.length - x.1) (0, r) ⟨Nat.zero_le _, hr⟩ (.here ?_) rfl (fun x hI => ?_)
  · simp -dsimp -implicitDefEqProofs only [go_sem, ↓reduceIte, Nat.reduceEqDiff, Nat.reduceLT, Nat.reduceAdd, Nat.reduceMul, Nat.reduceLeDiff, Nat.le_refl, Int.natCast_zero, Int.toNat_natCast, Int.reduceToNat]
  · obtain ⟨i, r⟩ := x
    obtain ⟨i1, i2⟩ := hI
    dsimp only at i1 i2 ⊢
    clear hr hn
    have hn := isReg_num i2
    by_cases hi : i < es.length
    · have li := lt_len hi
      have gi := get_some hi
      have hca := c_sApplyEvent r es[i] (by omega) (by omega)
      have hna : (applyEvent r es[i]).2 = 0 → isReg (applyEvent r es[i]).1 = true := fun h => by
        obtain ⟨_, _, a3, a4, a5, a6⟩ := applyEvent_len r es[i] h
        rw [a3]; exact isReg_apply a4 a5 a6
      generalize applyEvent r es[i] = q at *
      simp -dsimp -implicitDefEqProofs only [pick_nil, pick_cons, look_nil, look_cons, dropB_nil, dropB_cons, inD_nil, inD_cons, inE_nil, inE_cons, or_t_l, or_f_l, Nat.reduceBEq, Nat.reduceDiv, Nat.reduceAdd, beq_self_eq_true, Bool.false_eq_true, Bool.or_false, ↓reduceIte, Nat.reduceEqDiff, List.cons_append, List.nil_append]
      simp -dsimp -implicitDefEqProofs only [go_sem, ↓reduceIte, Nat.reduceEqDiff, Nat.reduceLT, Nat.reduceAdd, Nat.reduceMul, Nat.reduceLeDiff, Nat.le_refl, Int.natCast_zero, Int.toNat_natCast, Int.reduceToNat, li]
      refine Later.draw mixed rfl ?_
      simp -dsimp -implicitDefEqProofs only [go_sem, ↓reduceIte, Nat.reduceEqDiff, Nat.reduceLT, Nat.reduceAdd, Nat.reduceMul, Nat.reduceLeDiff, Nat.le_refl, Int.natCast_zero, Int.toNat_natCast, Int.reduceToNat, gi]
      repeat' (with_reducible refine And.intro ?_ ?_)
      all_goals try (first | omega | (refine ⟨?_, ?_⟩ <;> omega))
      refine sCallX_one hca ?_
      simp -dsimp -implicitDefEqProofs only [go_sem, ↓reduceIte, Nat.reduceEqDiff, Nat.reduceLT, Nat.reduceAdd, Nat.reduceMul, Nat.reduceLeDiff, Nat.le_refl, Int.natCast_zero, Int.toNat_natCast, Int.reduceToNat]
      repeat' (with_reducible refine And.intro ?_ ?_)
      all_goals try (exact rfl)
      rcases hq : (q.2 == 0) with _ | _
      · simp -dsimp -implicitDefEqProofs only [go_sem, ↓reduceIte, Nat.reduceEqDiff, Nat.reduceLT, Nat.reduceAdd, Nat.reduceMul, Nat.reduceLeDiff, Nat.le_refl, Int.natCast_zero, Int.toNat_natCast, Int.reduceToNat, hq]
        repeat' (with_reducible refine And.intro ?_ ?_)
        all_goals try (first | omega | (refine ⟨?_, ?_⟩ <;> omega))
        refine ⟨(i + 1, r), ⟨hi, i2⟩, by dsimp only; omega, .here ?_⟩
        simp -dsimp -implicitDefEqProofs only [go_sem, ↓reduceIte, Nat.reduceEqDiff, Nat.reduceLT, Nat.reduceAdd, Nat.reduceMul, Nat.reduceLeDiff, Nat.le_refl, Int.natCast_zero, Int.toNat_natCast, Int.reduceToNat]
        all_goals (first | omega | (rw [List.take_of_length_le (by simp)]; simp; done) | (refine ⟨?_, ?_⟩ <;> omega) | (exact rfl) | (simp; done) | (simp [*]; done) | trace_state)
      · simp -dsimp -implicitDefEqProofs only [go_sem, ↓reduceIte, Nat.reduceEqDiff, Nat.reduceLT, Nat.reduceAdd, Nat.reduceMul, Nat.reduceLeDiff, Nat.le_refl, Int.natCast_zero, Int.toNat_natCast, Int.reduceToNat, hq]
        repeat' (with_reducible refine And.intro ?_ ?_)
        all_goals try (first | omega | (refine ⟨?_, ?_⟩ <;> omega))
        refine ⟨(i + 1, q.1), ⟨hi, hna (by simpa using hq)⟩, by dsimp only; omega, .two 26000 10000 26001 10001 (by decide) (by decide) (by decide) (by decide) ?_⟩
        simp -dsimp -implicitDefEqProofs only [go_sem, ↓reduceIte, Nat.reduceEqDiff, Nat.reduceLT, Nat.reduceAdd, Nat.reduceMul, Nat.reduceLeDiff, Nat.le_refl, Int.natCast_zero, Int.toNat_natCast, Int.reduceToNat]
        all_goals (first | omega | (rw [List.take_of_length_le (by simp)]; simp; done) | (refine ⟨?_, ?_⟩ <;> omega) | (exact rfl) | (simp; done) | (simp [*]; done) | trace_state)
    · have e : i = es.length := by omega
      subst e
      clear hi i1
      have h1 := nx_ok bs 30 o2
      have hcn := fun v => c_l01Next v bs 30 s2 o2 hl
      generalize nx bs 30 s2 = z at *
      have o3 := h1.2.2.2
      simp -dsimp -implicitDefEqProofs only [pick_nil, pick_cons, look_nil, look_cons, dropB_nil, dropB_cons, inD_nil, inD_cons, inE_nil, inE_cons, or_t_l, or_f_l, Nat.reduceBEq, Nat.reduceDiv, Nat.reduceAdd, beq_self_eq_true, Bool.false_eq_true, Bool.or_false, ↓reduceIte, Nat.reduceEqDiff, List.cons_append, List.nil_append]
      simp -dsimp -implicitDefEqProofs only [go_sem, ↓reduceIte, Nat.reduceEqDiff, Nat.reduceLT, Nat.reduceAdd, Nat.reduceMul, Nat.reduceLeDiff, Nat.le_refl, Int.natCast_zero, Int.toNat_natCast, Int.reduceToNat, nlt_len]
      (refine sCallT_io [1000000000] ?_; simp -dsimp -implicitDefEqProofs only [go_sem, ↓reduceIte, Nat.reduceEqDiff, Nat.reduceLT, Nat.reduceAdd, Nat.reduceMul, Nat.reduceLeDiff, Nat.le_refl, Int.natCast_zero, Int.toNat_natCast, Int.reduceToNat]; refine sCallM_one (hcn _) ?_; simp -dsimp -implicitDefEqProofs only [go_sem, ↓reduceIte, Nat.reduceEqDiff, Nat.reduceLT, Nat.reduceAdd, Nat.reduceMul, Nat.reduceLeDiff, Nat.le_refl, Int.natCast_zero, Int.toNat_natCast, Int.reduceToNat])
      clear hcn h1
      rcases z0 : (z.1 == 0) with _ | _
      · rcases z1 : (z.1 == 1) with _ | _
        · rcases z2 : (z.1 == 2) with _ | _
          · rcases z3 : (z.1 == 3) with _ | _
            · simp -dsimp -implicitDefEqProofs only [go_sem, ↓reduceIte, Nat.reduceEqDiff, Nat.reduceLT, Nat.reduceAdd, Nat.reduceMul, Nat.reduceLeDiff, Nat.le_refl, Int.natCast_zero, Int.toNat_natCast, Int.reduceToNat, z0, z1, z2, z3]
              refine ⟨by simp, by simp, eReg r, ?_, r, z.2, o3, by omega, by omega, rfl, rfl⟩
              simp -dsimp -implicitDefEqProofs only [go_sem, ↓reduceIte, Nat.reduceEqDiff, Nat.reduceLT, Nat.reduceAdd, Nat.reduceMul, Nat.reduceLeDiff, Nat.le_refl, Int.natCast_zero, Int.toNat_natCast, Int.reduceToNat]
              all_goals (first | omega | (rw [List.take_of_length_le (by simp)]; simp; done) | (refine ⟨?_, ?_⟩ <;> omega) | (exact rfl) | (simp; done) | (simp [*]; done) | trace_state)
            · simp -dsimp -implicitDefEqProofs only [go_sem, ↓reduceIte, Nat.reduceEqDiff, Nat.reduceLT, Nat.reduceAdd, Nat.reduceMul, Nat.reduceLeDiff, Nat.le_refl, Int.natCast_zero, Int.toNat_natCast, Int.reduceToNat, z0, z1, z2, z3]
              have h1 := pk_ok bs [-1, 0, 9, 10] o3
              have h2 := (nx_ok bs 5 h1).2.2.2
              have h3 := pk_ok bs [-1, 0, 9] h2
              have c1 := fun v v2 d ys hy => c_l01Pick v v2 d bs [-1, 0, 9, 10] ys z.2 hy (by decide) (by decide) o3 hl
              have c2 := fun v => c_l01Next v bs 5 _ h1 hl
              have c3 := fun v v2 d ys hy => c_l01Pick v v2 d bs [-1, 0, 9] ys _ hy (by decide) (by decide) h2 hl
              generalize pk bs [-1, 0, 9, 10] z.2 = a at *
              generalize nx bs 5 a.2 = b at *
              generalize pk bs [-1, 0, 9] b.2 = c at *
              refine Later.draw mixed rfl ?_
              simp -dsimp -implicitDefEqProofs only [go_sem, ↓reduceIte, Nat.reduceEqDiff, Nat.reduceLT, Nat.reduceAdd, Nat.reduceMul, Nat.reduceLeDiff, Nat.le_refl, Int.natCast_zero, Int.toNat_natCast, Int.reduceToNat]
              repeat' (with_reducible refine And.intro ?_ ?_)
              all_goals try (first | omega | (refine ⟨?_, ?_⟩ <;> omega))
              (refine sCallX_io [1000000000, 59] rfl ?_; simp -dsimp -implicitDefEqProofs only [go_sem, ↓reduceIte, Nat.reduceEqDiff, Nat.reduceLT, Nat.reduceAdd, Nat.reduceMul, Nat.reduceLeDiff, Nat.le_refl, Int.natCast_zero, Int.toNat_natCast, Int.reduceToNat]; refine sCallMX_one (c1 _ _ _ _ rfl) ?_; simp -dsimp -implicitDefEqProofs only [go_sem, ↓reduceIte, Nat.reduceEqDiff, Nat.reduceLT, Nat.reduceAdd, Nat.reduceMul, Nat.reduceLeDiff, Nat.le_refl, Int.natCast_zero, Int.toNat_natCast, Int.reduceToNat])
              (refine sCallX_io [1000000000] rfl ?_; simp -dsimp -implicitDefEqProofs only [go_sem, ↓reduceIte, Nat.reduceEqDiff, Nat.reduceLT, Nat.reduceAdd, Nat.reduceMul, Nat.reduceLeDiff, Nat.le_refl, Int.natCast_zero, Int.toNat_natCast, Int.reduceToNat]; refine sCallMX_one (c2 _) ?_; simp -dsimp -implicitDefEqProofs only [go_sem, ↓reduceIte, Nat.reduceEqDiff, Nat.reduceLT, Nat.reduceAdd, Nat.reduceMul, Nat.reduceLeDiff, Nat.le_refl, Int.natCast_zero, Int.toNat_natCast, Int.reduceToNat])
              (refine sCallX_io [1000000000, 64] rfl ?_; simp -dsimp -implicitDefEqProofs only [go_sem, ↓reduceIte, Nat.reduceEqDiff, Nat.reduceLT, Nat.reduceAdd, Nat.reduceMul, Nat.reduceLeDiff, Nat.le_refl, Int.natCast_zero, Int.toNat_natCast, Int.reduceToNat]; refine sCallMX_one (c3 _ _ _ _ rfl) ?_; simp -dsimp -implicitDefEqProofs only [go_sem, ↓reduceIte, Nat.reduceEqDiff, Nat.reduceLT, Nat.reduceAdd, Nat.reduceMul, Nat.reduceLeDiff, Nat.le_refl, Int.natCast_zero, Int.toNat_natCast, Int.reduceToNat])
              clear c1 c2 c3
              repeat' (with_reducible refine And.intro ?_ ?_)
              all_goals try (first | omega | (refine ⟨?_, ?_⟩ <;> omega) | (exact rfl) | (simp; done))
              refine ⟨eReg ⟨r.tags ++ [⟨a.1, b.1, c.1⟩], r.roles⟩, ?_, ⟨r.tags ++ [⟨a.1, b.1, c.1⟩], r.roles⟩, c.2, h3, by simp; omega, by dsimp only; omega, rfl, rfl⟩
              simp -dsimp -implicitDefEqProofs only [go_sem, ↓reduceIte, Nat.reduceEqDiff, Nat.reduceLT, Nat.reduceAdd, Nat.reduceMul, Nat.reduceLeDiff, Nat.le_refl, Int.natCast_zero, Int.toNat_natCast, Int.reduceToNat]
              all_goals (first | omega | (rw [List.take_of_length_le (by simp)]; simp; done) | (refine ⟨?_, ?_⟩ <;> omega) | (exact rfl) | (simp; done) | (simp [*]; done) | trace_state)
          · simp -dsimp -implicitDefEqProofs only [go_sem, ↓reduceIte, Nat.reduceEqDiff, Nat.reduceLT, Nat.reduceAdd, Nat.reduceMul, Nat.reduceLeDiff, Nat.le_refl, Int.natCast_zero, Int.toNat_natCast, Int.reduceToNat, z0, z1, z2]
            refine Later.draw mixed rfl ?_
            simp -dsimp -implicitDefEqProofs only [go_sem, ↓reduceIte, Nat.reduceEqDiff, Nat.reduceLT, Nat.reduceAdd, Nat.reduceMul, Nat.reduceLeDiff, Nat.le_refl, Int.natCast_zero, Int.toNat_natCast, Int.reduceToNat]
            repeat' (with_reducible refine And.intro ?_ ?_)
            all_goals try (first | omega | (refine ⟨?_, ?_⟩ <;> omega) | (exact rfl) | (simp; done))
            refine ⟨eReg ⟨List.replicate 21 ⟨0, 0, 0⟩, r.roles⟩, ?_, ⟨List.replicate 21 ⟨0, 0, 0⟩, r.roles⟩, z.2, o3, by simp, by dsimp only; omega, rfl, rfl⟩
            simp -dsimp -implicitDefEqProofs only [go_sem, ↓reduceIte, Nat.reduceEqDiff, Nat.reduceLT, Nat.reduceAdd, Nat.reduceMul, Nat.reduceLeDiff, Nat.le_refl, Int.natCast_zero, Int.toNat_natCast, Int.reduceToNat]
            all_goals (first | omega | (rw [List.take_of_length_le (by simp)]; simp; done) | (refine ⟨?_, ?_⟩ <;> omega) | (exact rfl) | (simp; done) | (simp [*]; done) | trace_state)
        · simp -dsimp -implicitDefEqProofs only [go_sem, ↓reduceIte, Nat.reduceEqDiff, Nat.reduceLT, Nat.reduceAdd, Nat.reduceMul, Nat.reduceLeDiff, Nat.le_refl, Int.natCast_zero, Int.toNat_natCast, Int.reduceToNat, z0, z1]
          refine ⟨by simp, eReg ⟨r.tags, []⟩, ?_, ⟨r.tags, []⟩, z.2, o3, by dsimp only; omega, by simp, rfl, rfl⟩
          simp -dsimp -implicitDefEqProofs only [go_sem, ↓reduceIte, Nat.reduceEqDiff, Nat.reduceLT, Nat.reduceAdd, Nat.reduceMul, Nat.reduceLeDiff, Nat.le_refl, Int.natCast_zero, Int.toNat_natCast, Int.reduceToNat]
          all_goals (first | omega | (rw [List.take_of_length_le (by simp)]; simp; done) | (refine ⟨?_, ?_⟩ <;> omega) | (exact rfl) | (simp; done) | (simp [*]; done) | trace_state)
      · simp -dsimp -implicitDefEqProofs only [go_sem, ↓reduceIte, Nat.reduceEqDiff, Nat.reduceLT, Nat.reduceAdd, Nat.reduceMul, Nat.reduceLeDiff, Nat.le_refl, Int.natCast_zero, Int.toNat_natCast, Int.reduceToNat, z0]
        have h1 := pk_ok bs [-1, 3] o3
        have c1 := fun v v2 d ys hy => c_l01Pick v v2 d bs [-1, 3] ys z.2 hy (by decide) (by decide) o3 hl
        generalize pk bs [-1, 3] z.2 = a at *
        have g0 : r.roles[0]? = some (r.roles[0]'(by omega)) := get_some _
        refine Later.draw mixed rfl ?_
        simp -dsimp -implicitDefEqProofs only [go_sem, ↓reduceIte, Nat.reduceEqDiff, Nat.reduceLT, Nat.reduceAdd, Nat.reduceMul, Nat.reduceLeDiff, Nat.le_refl, Int.natCast_zero, Int.toNat_natCast, Int.reduceToNat]
        repeat' (with_reducible refine And.intro ?_ ?_)
        all_goals try (first | omega | (refine ⟨?_, ?_⟩ <;> omega))
        (refine sCallX_io [1000000000, 38] rfl ?_; simp -dsimp -implicitDefEqProofs only [go_sem, ↓reduceIte, Nat.reduceEqDiff, Nat.reduceLT, Nat.reduceAdd, Nat.reduceMul, Nat.reduceLeDiff, Nat.le_refl, Int.natCast_zero, Int.toNat_natCast, Int.reduceToNat]; refine sCallMX_one (c1 _ _ _ _ rfl) ?_; simp -dsimp -implicitDefEqProofs only [go_sem, ↓reduceIte, Nat.reduceEqDiff, Nat.reduceLT, Nat.reduceAdd, Nat.reduceMul, Nat.reduceLeDiff, Nat.le_refl, Int.natCast_zero, Int.toNat_natCast, Int.reduceToNat])
        clear c1
        repeat' (with_reducible refine And.intro ?_ ?_)
        all_goals try (first | omega | (refine ⟨?_, ?_⟩ <;> omega) | (exact rfl) | (simp; done))
        simp -dsimp -implicitDefEqProofs only [go_sem, ↓reduceIte, Nat.reduceEqDiff, Nat.reduceLT, Nat.reduceAdd, Nat.reduceMul, Nat.reduceLeDiff, Nat.le_refl, Int.natCast_zero, Int.toNat_natCast, Int.reduceToNat, g0]
        repeat' (with_reducible refine And.intro ?_ ?_)
        all_goals try (first | omega | (refine ⟨?_, ?_⟩ <;> omega) | (exact rfl) | (simp; done))
        refine ⟨eReg ⟨r.tags, r.roles.set 0 a.1⟩, ?_, ⟨r.tags, r.roles.set 0 a.1⟩, a.2, h1, by dsimp only; omega, by simp; omega, rfl, rfl⟩
        simp -dsimp -implicitDefEqProofs only [go_sem, ↓reduceIte, Nat.reduceEqDiff, Nat.reduceLT, Nat.reduceAdd, Nat.reduceMul, Nat.reduceLeDiff, Nat.le_refl, Int.natCast_zero, Int.toNat_natCast, Int.reduceToNat]
        all_goals (first | omega | (rw [List.take_of_length_le (by simp)]; simp; done) | (refine ⟨?_, ?_⟩ <;> omega) | (exact rfl) | (simp; done) | (simp [*]; done) | trace_state)
end Go.Vc


/-
  Contracts: what the law on holders draws from a code.
-/
set_option linter.unusedVariables false
set_option linter.unusedSimpArgs false
set_option linter.unnecessarySimpa false
namespace Go.Vc
open Go.Proofs
set_option maxRecDepth 100000
attribute [local irreducible] drawEvent drawEvents
theorem sCallS_any {P : Program} {f : FuncId} {d : Nat} {xs ts : List AV} {m : Mem} {k : AV → Mem → Prop} {post : AV → Prop} (h : Fn P f ts false post) (hl : noLabs xs) (hk : ∀ r, post r → k r m) {q : Pack k} : sCallT P f d xs ts m k q := .inr ⟨false, _, h, fun _ => hl, fun r hr => hk r hr⟩
set_option maxHeartbeats 4000000 in
theorem c_DrawTagsWith (bs : List UInt8) (hl : bs.length ≤ 4096) : Fn Try.prog 5 [eYs bs] true (fun x => ∃ (r : RegM) (p : Int), r.tags.length ≤ 21 ∧ r.roles.length ≤ 10 ∧ x = .tup [eReg r, eI p]) := by
  refine Fn.nil ?_
  refine Fn.of_vc 24 [.cell 2 27, .tmp 3] Try.func5 rfl rfl rfl rfl rfl (of_decide_eq_true rfl) ?_
  simp -dsimp -implicitDefEqProofs only [go_sem, ↓reduceIte, Nat.reduceEqDiff, Nat.reduceLT, Nat.reduceAdd, Nat.reduceMul, Nat.reduceLeDiff, Nat.le_refl, Int.natCast_zero, Int.toNat_natCast, Int.reduceToNat]
  refine sCallT_inl 900000 34 [.tmp 2] Try.func17 rfl rfl rfl rfl rfl (by exact of_decide_eq_true rfl) ?_
  simp -dsimp -implicitDefEqProofs only [go_sem, ↓reduceIte, Nat.reduceEqDiff, Nat.reduceLT, Nat.reduceAdd, Nat.reduceMul, Nat.reduceLeDiff, Nat.le_refl, Int.natCast_zero, Int.toNat_natCast, Int.reduceToNat]
  refine Later.up [0, 3] [10] [7] (min bs.length 64) (fun _ => True) (fun i => [(4, eI i)]) (fun i => [(7, srcB 0 bs ⟨seedAt bs i, 0⟩)]) trivial ?_ rfl (fun i hi _ => ?_) (fun _ => ?_)
  · simp -dsimp -implicitDefEqProofs only [go_sem, ↓reduceIte, Nat.reduceEqDiff, Nat.reduceLT, Nat.reduceAdd, Nat.reduceMul, Nat.reduceLeDiff, Nat.le_refl, Int.natCast_zero, Int.toNat_natCast, Int.reduceToNat]
    simp [seedAt]
  · ((have h1 : i < bs.length := by omega); (have h2 : i < 64 := by omega); (have hs := seedAt_ok bs i); (have hb := (bs[i]).toNat_lt); (have d1 := lt_len h1); (have d2 : decide ((i : Int) < 64) = true := decide_eq_true (by omega)); (have g1 := get_some h1); (have e1 := seedAt_succ h1); simp -dsimp -implicitDefEqProofs only [pick_nil, pick_cons, look_nil, look_cons, dropB_nil, dropB_cons, inD_nil, inD_cons, inE_nil, inE_cons, or_t_l, or_f_l, Nat.reduceBEq, Nat.reduceDiv, Nat.reduceAdd, beq_self_eq_true, Bool.false_eq_true, Bool.or_false, ↓reduceIte, Nat.reduceEqDiff, List.cons_append, List.nil_append]; rw [e1]; generalize bs[i] = b at *; generalize seedAt bs i = z at *; simp -dsimp -implicitDefEqProofs only [go_sem, ↓reduceIte, Nat.reduceEqDiff, Nat.reduceLT, Nat.reduceAdd, Nat.reduceMul, Nat.reduceLeDiff, Nat.le_refl, Int.natCast_zero, Int.toNat_natCast, Int.reduceToNat, d1, d2]; refine Later.draw mixed rfl ?_; simp -dsimp -implicitDefEqProofs only [go_sem, ↓reduceIte, Nat.reduceEqDiff, Nat.reduceLT, Nat.reduceAdd, Nat.reduceMul, Nat.reduceLeDiff, Nat.le_refl, Int.natCast_zero, Int.toNat_natCast, Int.reduceToNat, g1]; (repeat' (with_reducible refine And.intro ?_ ?_)); all_goals (first | omega | (refine ⟨?_, ?_⟩ <;> omega) | (exact rfl) | (simp; done) | trace_state))
  (have hs := src0_ok bs); (have hq : (⟨seedAt bs (min bs.length 64), 0⟩ : Src) = src0 bs := rfl); rw [hq]; clear hq; generalize src0 bs = s at *; (have d64 : decide (((64 : Nat) : Int) < 64) = false := rfl)
  rcases Nat.lt_or_ge 64 bs.length with h64 | h64
  case' inl => (rw [Nat.min_eq_right (Nat.le_of_lt h64)]; simp -dsimp -implicitDefEqProofs only [pick_nil, pick_cons, look_nil, look_cons, dropB_nil, dropB_cons, inD_nil, inD_cons, inE_nil, inE_cons, or_t_l, or_f_l, Nat.reduceBEq, Nat.reduceDiv, Nat.reduceAdd, beq_self_eq_true, Bool.false_eq_true, Bool.or_false, ↓reduceIte, Nat.reduceEqDiff, List.cons_append, List.nil_append]; simp -dsimp -implicitDefEqProofs only [go_sem, ↓reduceIte, Nat.reduceEqDiff, Nat.reduceLT, Nat.reduceAdd, Nat.reduceMul, Nat.reduceLeDiff, Nat.le_refl, Int.natCast_zero, Int.toNat_natCast, Int.reduceToNat, lt_len h64, d64])
  case' inr => (rw [Nat.min_eq_left h64]; simp -dsimp -implicitDefEqProofs only [pick_nil, pick_cons, look_nil, look_cons, dropB_nil, dropB_cons, inD_nil, inD_cons, inE_nil, inE_cons, or_t_l, or_f_l, Nat.reduceBEq, Nat.reduceDiv, Nat.reduceAdd, beq_self_eq_true, Bool.false_eq_true, Bool.or_false, ↓reduceIte, Nat.reduceEqDiff, List.cons_append, List.nil_append]; simp -dsimp -implicitDefEqProofs only [go_sem, ↓reduceIte, Nat.reduceEqDiff, Nat.reduceLT, Nat.reduceAdd, Nat.reduceMul, Nat.reduceLeDiff, Nat.le_refl, Int.natCast_zero, Int.toNat_natCast, Int.reduceToNat, nlt_len])
  all_goals
    refine sCallT_io [900007] ?_; simp -dsimp -implicitDefEqProofs only [go_sem, ↓reduceIte, Nat.reduceEqDiff, Nat.reduceLT, Nat.reduceAdd, Nat.reduceMul, Nat.reduceLeDiff, Nat.le_refl, Int.natCast_zero, Int.toNat_natCast, Int.reduceToNat]; refine sCallM_any (c_l30Draw _ bs s hs hl) ?_; rintro _ _ ⟨r, s1, o1, t1, t2, rfl, rfl⟩; simp -dsimp -implicitDefEqProofs only [go_sem, ↓reduceIte, Nat.reduceEqDiff, Nat.reduceLT, Nat.reduceAdd, Nat.reduceMul, Nat.reduceLeDiff, Nat.le_refl, Int.natCast_zero, Int.toNat_natCast, Int.reduceToNat]
    have q1 := fun v => c_l01Next v bs 12 s1 o1 hl
    have a := nx_ok bs 12 o1
    have a3 := a.2.2.1 (by omega)
    generalize nx bs 12 s1 = n1 at *
    have ht1 : 0 ≤ n1.1.tdiv 11 ∧ n1.1.tdiv 11 ≤ 1 := by rw [Int.tdiv_eq_ediv_of_nonneg a.1]; omega
    have q2 := fun v => c_l01Next v bs ((r.roles.length : Int) + n1.1.tdiv 11) n1.2 a.2.2.2 hl
    have b := nx_ok bs ((r.roles.length : Int) + n1.1.tdiv 11) a.2.2.2
    have b3 : 0 ≤ (nx bs ((r.roles.length : Int) + n1.1.tdiv 11) n1.2).1 ∧ (nx bs ((r.roles.length : Int) + n1.1.tdiv 11) n1.2).1 ≤ 11 := by
      by_cases h0 : (r.roles.length : Int) + n1.1.tdiv 11 ≤ 1
      · rw [b.2.1 h0]; omega
      · have := b.2.2.1 (by omega); omega
    generalize nx bs ((r.roles.length : Int) + n1.1.tdiv 11) n1.2 = n2 at *
    have q3 := fun v => c_l01Next v bs 24 n2.2 b.2.2.2 hl
    have c := nx_ok bs 24 b.2.2.2
    have c3 := c.2.2.1 (by omega)
    generalize nx bs 24 n2.2 = n3 at *
    have ht3 : 0 ≤ n3.1.tdiv 23 ∧ n3.1.tdiv 23 ≤ 1 := by rw [Int.tdiv_eq_ediv_of_nonneg c.1]; omega
    refine Later.draw mixed rfl ?_
    simp -dsimp -implicitDefEqProofs only [go_sem, ↓reduceIte, Nat.reduceEqDiff, Nat.reduceLT, Nat.reduceAdd, Nat.reduceMul, Nat.reduceLeDiff, Nat.le_refl, Int.natCast_zero, Int.toNat_natCast, Int.reduceToNat]
    ((repeat' (with_reducible refine And.intro ?_ ?_)); all_goals try (first | omega | (refine ⟨?_, ?_⟩ <;> omega) | (exact rfl)))
    (refine sCallX_io [900007] rfl ?_; simp -dsimp -implicitDefEqProofs only [go_sem, ↓reduceIte, Nat.reduceEqDiff, Nat.reduceLT, Nat.reduceAdd, Nat.reduceMul, Nat.reduceLeDiff, Nat.le_refl, Int.natCast_zero, Int.toNat_natCast, Int.reduceToNat]; refine sCallMX_one (q1 _) ?_; simp -dsimp -implicitDefEqProofs only [go_sem, ↓reduceIte, Nat.reduceEqDiff, Nat.reduceLT, Nat.reduceAdd, Nat.reduceMul, Nat.reduceLeDiff, Nat.le_refl, Int.natCast_zero, Int.toNat_natCast, Int.reduceToNat])
    ((repeat' (with_reducible refine And.intro ?_ ?_)); all_goals try (first | omega | (refine ⟨?_, ?_⟩ <;> omega) | (exact rfl)))
    (refine sCallX_io [900007] rfl ?_; simp -dsimp -implicitDefEqProofs only [go_sem, ↓reduceIte, Nat.reduceEqDiff, Nat.reduceLT, Nat.reduceAdd, Nat.reduceMul, Nat.reduceLeDiff, Nat.le_refl, Int.natCast_zero, Int.toNat_natCast, Int.reduceToNat]; refine sCallMX_one (q2 _) ?_; simp -dsimp -implicitDefEqProofs only [go_sem, ↓reduceIte, Nat.reduceEqDiff, Nat.reduceLT, Nat.reduceAdd, Nat.reduceMul, Nat.reduceLeDiff, Nat.le_refl, Int.natCast_zero, Int.toNat_natCast, Int.reduceToNat])
    ((repeat' (with_reducible refine And.intro ?_ ?_)); all_goals try (first | omega | (refine ⟨?_, ?_⟩ <;> omega) | (exact rfl)))
    (refine sCallX_io [900007] rfl ?_; simp -dsimp -implicitDefEqProofs only [go_sem, ↓reduceIte, Nat.reduceEqDiff, Nat.reduceLT, Nat.reduceAdd, Nat.reduceMul, Nat.reduceLeDiff, Nat.le_refl, Int.natCast_zero, Int.toNat_natCast, Int.reduceToNat]; refine sCallMX_one (q3 _) ?_; simp -dsimp -implicitDefEqProofs only [go_sem, ↓reduceIte, Nat.reduceEqDiff, Nat.reduceLT, Nat.reduceAdd, Nat.reduceMul, Nat.reduceLeDiff, Nat.le_refl, Int.natCast_zero, Int.toNat_natCast, Int.reduceToNat])
    ((repeat' (with_reducible refine And.intro ?_ ?_)); all_goals try (first | omega | (refine ⟨?_, ?_⟩ <;> omega) | (exact rfl)))
    all_goals first
      | (simp; done)
      | (refine ⟨.tup [eReg r, eI (n2.1 - n3.1.tdiv 23)], ?_, r, _, t1, t2, rfl⟩; simp -dsimp -implicitDefEqProofs only [go_sem, ↓reduceIte, Nat.reduceEqDiff, Nat.reduceLT, Nat.reduceAdd, Nat.reduceMul, Nat.reduceLeDiff, Nat.le_refl, Int.natCast_zero, Int.toNat_natCast, Int.reduceToNat]; all_goals (first | omega | (rw [List.take_of_length_le (by simp)]; simp; done) | (refine ⟨?_, ?_⟩ <;> omega) | (exact rfl) | (simp; done) | (simp [*]; done) | trace_state))
      | trace_state
set_option maxHeartbeats 4000000 in
theorem c_DrawPersonDoors (bs : List UInt8) (hl : bs.length ≤ 4096) : Fn Try.prog 8 [eYs bs] false (fun x => ∃ (r : RegM) (t : List (List Int)) (p : Int), r.tags.length ≤ 21 ∧ r.roles.length ≤ 10 ∧ t.length ≤ 11 ∧ (∀ x ∈ t, x.length ≤ 13) ∧ x = .tup [eReg r, eIss t, eI p]) := by
  refine Fn.of_vcS 19 [.cell 2 27, .tmp 3, .tmp 4] Try.func8 rfl rfl rfl rfl rfl (of_decide_eq_true rfl) ?_
  simp -dsimp -implicitDefEqProofs only [go_sem, ↓reduceIte, Nat.reduceEqDiff, Nat.reduceLT, Nat.reduceAdd, Nat.reduceMul, Nat.reduceLeDiff, Nat.le_refl, Int.natCast_zero, Int.toNat_natCast, Int.reduceToNat]
  refine sCallT_inl 900000 34 [.tmp 2] Try.func17 rfl rfl rfl rfl rfl (by exact of_decide_eq_true rfl) ?_
  simp -dsimp -implicitDefEqProofs only [go_sem, ↓reduceIte, Nat.reduceEqDiff, Nat.reduceLT, Nat.reduceAdd, Nat.reduceMul, Nat.reduceLeDiff, Nat.le_refl, Int.natCast_zero, Int.toNat_natCast, Int.reduceToNat]
  refine Later.up [0, 3] [10] [7] (min bs.length 64) (fun _ => True) (fun i => [(4, eI i)]) (fun i => [(7, srcB 0 bs ⟨seedAt bs i, 0⟩)]) trivial ?_ rfl (fun i hi _ => ?_) (fun _ => ?_)
  · simp -dsimp -implicitDefEqProofs only [go_sem, ↓reduceIte, Nat.reduceEqDiff, Nat.reduceLT, Nat.reduceAdd, Nat.reduceMul, Nat.reduceLeDiff, Nat.le_refl, Int.natCast_zero, Int.toNat_natCast, Int.reduceToNat]
    simp [seedAt]
  · ((have h1 : i < bs.length := by omega); (have h2 : i < 64 := by omega); (have hs := seedAt_ok bs i); (have hb := (bs[i]).toNat_lt); (have d1 := lt_len h1); (have d2 : decide ((i : Int) < 64) = true := decide_eq_true (by omega)); (have g1 := get_some h1); (have e1 := seedAt_succ h1); simp -dsimp -implicitDefEqProofs only [pick_nil, pick_cons, look_nil, look_cons, dropB_nil, dropB_cons, inD_nil, inD_cons, inE_nil, inE_cons, or_t_l, or_f_l, Nat.reduceBEq, Nat.reduceDiv, Nat.reduceAdd, beq_self_eq_true, Bool.false_eq_true, Bool.or_false, ↓reduceIte, Nat.reduceEqDiff, List.cons_append, List.nil_append]; rw [e1]; generalize bs[i] = b at *; generalize seedAt bs i = z at *; simp -dsimp -implicitDefEqProofs only [go_sem, ↓reduceIte, Nat.reduceEqDiff, Nat.reduceLT, Nat.reduceAdd, Nat.reduceMul, Nat.reduceLeDiff, Nat.le_refl, Int.natCast_zero, Int.toNat_natCast, Int.reduceToNat, d1, d2]; refine Later.draw mixed rfl ?_; simp -dsimp -implicitDefEqProofs only [go_sem, ↓reduceIte, Nat.reduceEqDiff, Nat.reduceLT, Nat.reduceAdd, Nat.reduceMul, Nat.reduceLeDiff, Nat.le_refl, Int.natCast_zero, Int.toNat_natCast, Int.reduceToNat, g1]; (repeat' (with_reducible refine And.intro ?_ ?_)); all_goals (first | omega | (refine ⟨?_, ?_⟩ <;> omega) | (exact rfl) | (simp; done) | trace_state))
  (have hs := src0_ok bs); (have hq : (⟨seedAt bs (min bs.length 64), 0⟩ : Src) = src0 bs := rfl); rw [hq]; clear hq; generalize src0 bs = s at *; (have d64 : decide (((64 : Nat) : Int) < 64) = false := rfl)
  rcases Nat.lt_or_ge 64 bs.length with h64 | h64
  case' inl => (rw [Nat.min_eq_right (Nat.le_of_lt h64)]; simp -dsimp -implicitDefEqProofs only [pick_nil, pick_cons, look_nil, look_cons, dropB_nil, dropB_cons, inD_nil, inD_cons, inE_nil, inE_cons, or_t_l, or_f_l, Nat.reduceBEq, Nat.reduceDiv, Nat.reduceAdd, beq_self_eq_true, Bool.false_eq_true, Bool.or_false, ↓reduceIte, Nat.reduceEqDiff, List.cons_append, List.nil_append]; simp -dsimp -implicitDefEqProofs only [go_sem, ↓reduceIte, Nat.reduceEqDiff, Nat.reduceLT, Nat.reduceAdd, Nat.reduceMul, Nat.reduceLeDiff, Nat.le_refl, Int.natCast_zero, Int.toNat_natCast, Int.reduceToNat, lt_len h64, d64])
  case' inr => (rw [Nat.min_eq_left h64]; simp -dsimp -implicitDefEqProofs only [pick_nil, pick_cons, look_nil, look_cons, dropB_nil, dropB_cons, inD_nil, inD_cons, inE_nil, inE_cons, or_t_l, or_f_l, Nat.reduceBEq, Nat.reduceDiv, Nat.reduceAdd, beq_self_eq_true, Bool.false_eq_true, Bool.or_false, ↓reduceIte, Nat.reduceEqDiff, List.cons_append, List.nil_append]; simp -dsimp -implicitDefEqProofs only [go_sem, ↓reduceIte, Nat.reduceEqDiff, Nat.reduceLT, Nat.reduceAdd, Nat.reduceMul, Nat.reduceLeDiff, Nat.le_refl, Int.natCast_zero, Int.toNat_natCast, Int.reduceToNat, nlt_len])
  all_goals
    have q1 := fun v => c_l11Draw v bs s hs hl
    have ht := tabD_ok bs hs
    generalize tabD bs s = T at *
    refine sCallT_any (c_DrawTagsWith bs hl) ?_
    rintro _ ⟨r, p, t1, t2, rfl⟩
    simp -dsimp -implicitDefEqProofs only [go_sem, ↓reduceIte, Nat.reduceEqDiff, Nat.reduceLT, Nat.reduceAdd, Nat.reduceMul, Nat.reduceLeDiff, Nat.le_refl, Int.natCast_zero, Int.toNat_natCast, Int.reduceToNat]
    refine Later.draw mixed rfl ?_
    simp -dsimp -implicitDefEqProofs only [go_sem, ↓reduceIte, Nat.reduceEqDiff, Nat.reduceLT, Nat.reduceAdd, Nat.reduceMul, Nat.reduceLeDiff, Nat.le_refl, Int.natCast_zero, Int.toNat_natCast, Int.reduceToNat]
    ((repeat' (with_reducible refine And.intro ?_ ?_)); all_goals try (first | omega | (refine ⟨?_, ?_⟩ <;> omega) | (exact rfl)))
    refine sCallX_ioR [900007] rfl ?_
    simp -dsimp -implicitDefEqProofs only [go_sem, ↓reduceIte, Nat.reduceEqDiff, Nat.reduceLT, Nat.reduceAdd, Nat.reduceMul, Nat.reduceLeDiff, Nat.le_refl, Int.natCast_zero, Int.toNat_natCast, Int.reduceToNat]
    refine sCallMRX_one (q1 _) ?_
    simp -dsimp -implicitDefEqProofs only [go_sem, ↓reduceIte, Nat.reduceEqDiff, Nat.reduceLT, Nat.reduceAdd, Nat.reduceMul, Nat.reduceLeDiff, Nat.le_refl, Int.natCast_zero, Int.toNat_natCast, Int.reduceToNat]
    ((repeat' (with_reducible refine And.intro ?_ ?_)); all_goals try (first | omega | (refine ⟨?_, ?_⟩ <;> omega) | (exact rfl)))
    all_goals first
      | (refine ⟨r, T.1, p, t1, t2, ht.2.1, ht.2.2, ?_⟩; (first | omega | (rw [List.take_of_length_le (by simp)]; simp; done) | (refine ⟨?_, ?_⟩ <;> omega) | (exact rfl) | (simp; done) | (simp [*]; done) | trace_state))
      | trace_state
end Go.Vc


/-
  Marks in registers; the law FnExactNewRegister.
-/
set_option linter.unusedVariables false
set_option linter.unusedSimpArgs false
set_option linter.unnecessarySimpa false
namespace Go.Vc
open Go.Proofs
set_option maxRecDepth 100000
end Go.Vc


/-
  Contracts: the doors that a person opens.
-/
set_option linter.unusedVariables false
set_option linter.unusedSimpArgs false
set_option linter.unnecessarySimpa false
namespace Go.Vc
open Go.Proofs
set_option maxRecDepth 100000
def open1 (t : List (List Int)) (k : Nat) (key : Int) : Bool := (t.getD key.toNat []).getD k 0 == 1
def openAt (t : List (List Int)) (keys : List Int) (k : Nat) : Bool := keys.any (open1 t k)
def openFor (t : List (List Int)) (keys : List Int) : List Int × Int := if isTb t then (if rises keys t.length then (flt (openAt t keys) (t.getD 0 []).length, 0) else ([], 2)) else ([], 1)
theorem open_get {t : List (List Int)} (hb : isTb t = true) {keys : List Int} (hr : rises keys t.length = true) {k : Nat} (hk : k < (t.getD 0 []).length) {i : Nat} (hi : i < keys.length) :
    ∃ h1 : keys[i].toNat < t.length, ∃ h2 : k < t[keys[i].toNat].length, 0 ≤ keys[i] ∧ open1 t k keys[i] = (t[keys[i].toNat][k] == 1) := by
  have h0 := ((rises_iff _ _).1 hr).1 i hi
  have h1 : keys[i].toNat < t.length := by omega
  have h2 : k < t[keys[i].toNat].length := by rw [(isTb_num hb).2.2.2.2 _ h1]; exact hk
  exact ⟨h1, h2, h0.1, by simp [open1, List.getD_eq_getElem?_getD, h1, h2]⟩
theorem c_l11Open (t : List (List Int)) (keys : List Int) (k : Nat) (hb : isTb t = true) (hr : rises keys t.length = true) (hk : k < (t.getD 0 []).length) (hl : keys.length ≤ 1048576) :
    Fn Try.prog 34 [eIss t, eIs keys, eIs [(k : Int)]] true (· = eB (openAt t keys k)) := by
  refine Fn.of_vcN 41 [.tmp 6] Try.func34 rfl rfl rfl rfl rfl (of_decide_eq_true rfl) ?_
  have hn := isTb_num hb
  have hog : ∀ i (hi : i < keys.length), _ := fun i hi => open_get hb hr hk hi
  simp -dsimp -implicitDefEqProofs only [go_sem, ↓reduceIte, Nat.reduceEqDiff, Nat.reduceLT, Nat.reduceAdd, Nat.reduceMul, Nat.reduceLeDiff, Nat.le_refl, Int.natCast_zero, Int.toNat_natCast, Int.reduceToNat]
  refine Later.up [0, 1, 2] [12, 18] [] 1 (fun i => i = 0 ∨ openAt t keys k = true) (fun i => [(7, eI i)]) (fun _ => []) (.inl rfl) ?_ rfl (fun i hi hI => ?_) (fun hI => ?_)
  · simp -dsimp -implicitDefEqProofs only [go_sem, ↓reduceIte, Nat.reduceEqDiff, Nat.reduceLT, Nat.reduceAdd, Nat.reduceMul, Nat.reduceLeDiff, Nat.le_refl, Int.natCast_zero, Int.toNat_natCast, Int.reduceToNat]
  · have hi0 : i = 0 := by omega
    subst hi0
    clear hI hi
    simp -dsimp -implicitDefEqProofs only [pick_nil, pick_cons, look_nil, look_cons, dropB_nil, dropB_cons, inD_nil, inD_cons, inE_nil, inE_cons, or_t_l, or_f_l, Nat.reduceBEq, Nat.reduceDiv, Nat.reduceAdd, beq_self_eq_true, Bool.false_eq_true, Bool.or_false, ↓reduceIte, Nat.reduceEqDiff, List.cons_append, List.nil_append]
    simp -dsimp -implicitDefEqProofs only [go_sem, ↓reduceIte, Nat.reduceEqDiff, Nat.reduceLT, Nat.reduceAdd, Nat.reduceMul, Nat.reduceLeDiff, Nat.le_refl, Int.natCast_zero, Int.toNat_natCast, Int.reduceToNat]
    repeat' first
      | (refine Br.intro (fun _ => ?_) (fun _ => ?_) <;> try simp -dsimp -implicitDefEqProofs only [go_sem, ↓reduceIte, Nat.reduceEqDiff, Nat.reduceLT, Nat.reduceAdd, Nat.reduceMul, Nat.reduceLeDiff, Nat.le_refl, Int.natCast_zero, Int.toNat_natCast, Int.reduceToNat, *])
      | (with_reducible refine And.intro ?_ ?_)
    all_goals try (first | omega | rfl | (simp; done) | (rename_i h; exact absurd h (by decide)))
    refine Later.up [0, 1, 2, 7] [18] [] keys.length (fun _ => True) (fun j => [(9, eI j), (8, eB ((keys.take j).any (open1 t k)))]) (fun _ => []) trivial ?_ rfl (fun j hj _ => ?_) (fun _ => ?_)
    · simp -dsimp -implicitDefEqProofs only [go_sem, ↓reduceIte, Nat.reduceEqDiff, Nat.reduceLT, Nat.reduceAdd, Nat.reduceMul, Nat.reduceLeDiff, Nat.le_refl, Int.natCast_zero, Int.toNat_natCast, Int.reduceToNat, List.take_zero, List.any_nil]
      all_goals first | (simp; done) | trace_state
    · obtain ⟨g1, g2, g3, g4⟩ := hog j hj
      have gj := get_some hj
      have lj := lt_len hj
      have ga := get_some g1
      have gb := get_some g2
      have ha := any_take (open1 t k) keys j hj
      rw [g4] at ha
      clear g4 hog hb hr
      simp -dsimp -implicitDefEqProofs only [pick_nil, pick_cons, look_nil, look_cons, dropB_nil, dropB_cons, inD_nil, inD_cons, inE_nil, inE_cons, or_t_l, or_f_l, Nat.reduceBEq, Nat.reduceDiv, Nat.reduceAdd, beq_self_eq_true, Bool.false_eq_true, Bool.or_false, ↓reduceIte, Nat.reduceEqDiff, List.cons_append, List.nil_append]
      rw [ha]
      clear ha
      simp -dsimp -implicitDefEqProofs only [go_sem, ↓reduceIte, Nat.reduceEqDiff, Nat.reduceLT, Nat.reduceAdd, Nat.reduceMul, Nat.reduceLeDiff, Nat.le_refl, Int.natCast_zero, Int.toNat_natCast, Int.reduceToNat, gj, lj, ga, gb]
      repeat' first
        | (refine Br.intro (fun _ => ?_) (fun _ => ?_) <;> try simp -dsimp -implicitDefEqProofs only [go_sem, ↓reduceIte, Nat.reduceEqDiff, Nat.reduceLT, Nat.reduceAdd, Nat.reduceMul, Nat.reduceLeDiff, Nat.le_refl, Int.natCast_zero, Int.toNat_natCast, Int.reduceToNat, *])
        | (with_reducible refine And.intro ?_ ?_)
        | (refine Later.draw mixed rfl ?_; try simp -dsimp -implicitDefEqProofs only [go_sem, ↓reduceIte, Nat.reduceEqDiff, Nat.reduceLT, Nat.reduceAdd, Nat.reduceMul, Nat.reduceLeDiff, Nat.le_refl, Int.natCast_zero, Int.toNat_natCast, Int.reduceToNat, *])
      all_goals first
        | omega
        | (refine ⟨?_, ?_⟩ <;> omega)
        | rfl
        | (simp; done)
        | (simp_all; done)
        | (rename_i h; exact absurd h (by decide))
        | (exact ⟨by decide, by decide⟩)
        | trace_state
    · have hd : keys.any (open1 t k) = openAt t keys k := rfl
      rw [List.take_length, hd]
      clear hd
      simp -dsimp -implicitDefEqProofs only [pick_nil, pick_cons, look_nil, look_cons, dropB_nil, dropB_cons, inD_nil, inD_cons, inE_nil, inE_cons, or_t_l, or_f_l, Nat.reduceBEq, Nat.reduceDiv, Nat.reduceAdd, beq_self_eq_true, Bool.false_eq_true, Bool.or_false, ↓reduceIte, Nat.reduceEqDiff, List.cons_append, List.nil_append]
      simp -dsimp -implicitDefEqProofs only [go_sem, ↓reduceIte, Nat.reduceEqDiff, Nat.reduceLT, Nat.reduceAdd, Nat.reduceMul, Nat.reduceLeDiff, Nat.le_refl, Int.natCast_zero, Int.toNat_natCast, Int.reduceToNat, nlt_len]
      repeat' first
        | (refine Br.intro (fun _ => ?_) (fun _ => ?_) <;> try simp -dsimp -implicitDefEqProofs only [go_sem, ↓reduceIte, Nat.reduceEqDiff, Nat.reduceLT, Nat.reduceAdd, Nat.reduceMul, Nat.reduceLeDiff, Nat.le_refl, Int.natCast_zero, Int.toNat_natCast, Int.reduceToNat, *])
        | (with_reducible refine And.intro ?_ ?_)
      all_goals first
        | omega
        | rfl
        | (simp; done)
        | (simp_all; done)
        | (rename_i h; exact absurd h (by decide))
        | (exact ⟨by decide, by decide⟩)
        | trace_state
  · have hI := hI.resolve_left (by omega)
    simp -dsimp -implicitDefEqProofs only [pick_nil, pick_cons, look_nil, look_cons, dropB_nil, dropB_cons, inD_nil, inD_cons, inE_nil, inE_cons, or_t_l, or_f_l, Nat.reduceBEq, Nat.reduceDiv, Nat.reduceAdd, beq_self_eq_true, Bool.false_eq_true, Bool.or_false, ↓reduceIte, Nat.reduceEqDiff, List.cons_append, List.nil_append]
    simp -dsimp -implicitDefEqProofs only [go_sem, ↓reduceIte, Nat.reduceEqDiff, Nat.reduceLT, Nat.reduceAdd, Nat.reduceMul, Nat.reduceLeDiff, Nat.le_refl, Int.natCast_zero, Int.toNat_natCast, Int.reduceToNat]
    repeat' first
      | (refine Br.intro (fun _ => ?_) (fun _ => ?_) <;> try simp -dsimp -implicitDefEqProofs only [go_sem, ↓reduceIte, Nat.reduceEqDiff, Nat.reduceLT, Nat.reduceAdd, Nat.reduceMul, Nat.reduceLeDiff, Nat.le_refl, Int.natCast_zero, Int.toNat_natCast, Int.reduceToNat, *])
      | (with_reducible refine And.intro ?_ ?_)
    all_goals first
      | omega
      | rfl
      | (simp_all; done)
      | (rename_i h; exact absurd h (by decide))
      | (exact ⟨by decide, by decide⟩)
      | trace_state
theorem c_sOpenFor (t : List (List Int)) (keys : List Int) (h : t.length ≤ 1048576) (h2 : ∀ x ∈ t, x.length ≤ 1048576) (h3 : keys.length ≤ 1048576) : Fn Try.prog 13 [eIss t, eIs keys] true (· = .tup [eIs (openFor t keys).1, eI (openFor t keys).2]) := by
  refine Fn.of_vcN 35 [.tmp 4, .tmp 5] Try.func13 rfl rfl rfl rfl rfl (of_decide_eq_true rfl) ?_
  rcases hb : isTb t with _ | _
  · simp -dsimp -implicitDefEqProofs only [go_sem, ↓reduceIte, Nat.reduceEqDiff, Nat.reduceLT, Nat.reduceAdd, Nat.reduceMul, Nat.reduceLeDiff, Nat.le_refl, Int.natCast_zero, Int.toNat_natCast, Int.reduceToNat]
    repeat' first
      | (refine Br.intro (fun _ => ?_) (fun _ => ?_) <;> try simp -dsimp -implicitDefEqProofs only [go_sem, ↓reduceIte, Nat.reduceEqDiff, Nat.reduceLT, Nat.reduceAdd, Nat.reduceMul, Nat.reduceLeDiff, Nat.le_refl, Int.natCast_zero, Int.toNat_natCast, Int.reduceToNat, *])
      | (with_reducible refine And.intro ?_ ?_)
      | (refine sCallT_one (c_sIsTable t h h2) ?_; try simp -dsimp -implicitDefEqProofs only [go_sem, ↓reduceIte, Nat.reduceEqDiff, Nat.reduceLT, Nat.reduceAdd, Nat.reduceMul, Nat.reduceLeDiff, Nat.le_refl, Int.natCast_zero, Int.toNat_natCast, Int.reduceToNat, *])
    all_goals first
      | omega
      | (simp_all [openFor]; done)
      | trace_state
  rcases hr : rises keys (t.length : Int) with _ | _
  · simp -dsimp -implicitDefEqProofs only [go_sem, ↓reduceIte, Nat.reduceEqDiff, Nat.reduceLT, Nat.reduceAdd, Nat.reduceMul, Nat.reduceLeDiff, Nat.le_refl, Int.natCast_zero, Int.toNat_natCast, Int.reduceToNat]
    repeat' first
      | (refine Br.intro (fun _ => ?_) (fun _ => ?_) <;> try simp -dsimp -implicitDefEqProofs only [go_sem, ↓reduceIte, Nat.reduceEqDiff, Nat.reduceLT, Nat.reduceAdd, Nat.reduceMul, Nat.reduceLeDiff, Nat.le_refl, Int.natCast_zero, Int.toNat_natCast, Int.reduceToNat, *])
      | (with_reducible refine And.intro ?_ ?_)
      | (refine sCallT_one (c_sIsTable t h h2) ?_; try simp -dsimp -implicitDefEqProofs only [go_sem, ↓reduceIte, Nat.reduceEqDiff, Nat.reduceLT, Nat.reduceAdd, Nat.reduceMul, Nat.reduceLeDiff, Nat.le_refl, Int.natCast_zero, Int.toNat_natCast, Int.reduceToNat, *])
      | (refine sCallT_one (c_l01Rises keys _ (by omega)) ?_; try simp -dsimp -implicitDefEqProofs only [go_sem, ↓reduceIte, Nat.reduceEqDiff, Nat.reduceLT, Nat.reduceAdd, Nat.reduceMul, Nat.reduceLeDiff, Nat.le_refl, Int.natCast_zero, Int.toNat_natCast, Int.reduceToNat, *])
    all_goals first
      | omega
      | (simp_all [openFor]; done)
      | trace_state
  have hF : openFor t keys = (flt (openAt t keys) (t.getD 0 []).length, 0) := by rw [openFor, hb, hr]; rfl
  obtain ⟨n1, n2, n3, n4, n5⟩ := isTb_num hb
  have h00 : 0 < t.length := by omega
  have g0 := get_some h00
  have gd : t.getD 0 [] = t[0] := by simp [List.getD_eq_getElem?_getD, h00]
  have hop := fun k hk => c_l11Open t keys k hb hr hk h3
  rw [gd] at n3 n4 n5 hF hop
  rw [hF]
  clear hF gd
  simp -dsimp -implicitDefEqProofs only [go_sem, ↓reduceIte, Nat.reduceEqDiff, Nat.reduceLT, Nat.reduceAdd, Nat.reduceMul, Nat.reduceLeDiff, Nat.le_refl, Int.natCast_zero, Int.toNat_natCast, Int.reduceToNat]
  repeat' first
    | (refine Br.intro (fun _ => ?_) (fun _ => ?_) <;> try simp -dsimp -implicitDefEqProofs only [go_sem, ↓reduceIte, Nat.reduceEqDiff, Nat.reduceLT, Nat.reduceAdd, Nat.reduceMul, Nat.reduceLeDiff, Nat.le_refl, Int.natCast_zero, Int.toNat_natCast, Int.reduceToNat, *])
    | (with_reducible refine And.intro ?_ ?_)
    | (refine sCallT_one (c_sIsTable t h h2) ?_; try simp -dsimp -implicitDefEqProofs only [go_sem, ↓reduceIte, Nat.reduceEqDiff, Nat.reduceLT, Nat.reduceAdd, Nat.reduceMul, Nat.reduceLeDiff, Nat.le_refl, Int.natCast_zero, Int.toNat_natCast, Int.reduceToNat, *])
    | (refine sCallT_one (c_l01Rises keys _ (by omega)) ?_; try simp -dsimp -implicitDefEqProofs only [go_sem, ↓reduceIte, Nat.reduceEqDiff, Nat.reduceLT, Nat.reduceAdd, Nat.reduceMul, Nat.reduceLeDiff, Nat.le_refl, Int.natCast_zero, Int.toNat_natCast, Int.reduceToNat, *])
  all_goals try (first | omega | (simp_all; done))
  refine Later.up [0, 1] [21, 28, 29, 32, 33] [16] t[0].length (fun _ => True) (fun i => [(7, eI i), (6, .ref 16 0 0 (flt (openAt t keys) i).length)]) (fun i => [(16, .row 0 ⟨1, false⟩ true ((flt (openAt t keys) i).map eI))]) trivial ?_ rfl (fun i hi _ => ?_) (fun _ => ?_)
  · simp -dsimp -implicitDefEqProofs only [go_sem, ↓reduceIte, Nat.reduceEqDiff, Nat.reduceLT, Nat.reduceAdd, Nat.reduceMul, Nat.reduceLeDiff, Nat.le_refl, Int.natCast_zero, Int.toNat_natCast, Int.reduceToNat, flt_zero]
    all_goals simp
  · have hl := flt_len (openAt t keys) i
    have hs := flt_succ (openAt t keys) i
    have hc := hop i hi
    clear hop hb hr
    simp -dsimp -implicitDefEqProofs only [pick_nil, pick_cons, look_nil, look_cons, dropB_nil, dropB_cons, inD_nil, inD_cons, inE_nil, inE_cons, or_t_l, or_f_l, Nat.reduceBEq, Nat.reduceDiv, Nat.reduceAdd, beq_self_eq_true, Bool.false_eq_true, Bool.or_false, ↓reduceIte, Nat.reduceEqDiff, List.cons_append, List.nil_append]
    rw [hs]
    clear hs
    simp -dsimp -implicitDefEqProofs only [go_sem, ↓reduceIte, Nat.reduceEqDiff, Nat.reduceLT, Nat.reduceAdd, Nat.reduceMul, Nat.reduceLeDiff, Nat.le_refl, Int.natCast_zero, Int.toNat_natCast, Int.reduceToNat, lt_len hi, g0]
    repeat' first
      | (refine Br.intro (fun _ => ?_) (fun _ => ?_) <;> try simp -dsimp -implicitDefEqProofs only [go_sem, ↓reduceIte, Nat.reduceEqDiff, Nat.reduceLT, Nat.reduceAdd, Nat.reduceMul, Nat.reduceLeDiff, Nat.le_refl, Int.natCast_zero, Int.toNat_natCast, Int.reduceToNat, *])
      | (with_reducible refine And.intro ?_ ?_)
      | (refine Later.draw mixed rfl ?_; try simp -dsimp -implicitDefEqProofs only [go_sem, ↓reduceIte, Nat.reduceEqDiff, Nat.reduceLT, Nat.reduceAdd, Nat.reduceMul, Nat.reduceLeDiff, Nat.le_refl, Int.natCast_zero, Int.toNat_natCast, Int.reduceToNat, *])
      | (refine sCallT_one (hc) ?_; try simp -dsimp -implicitDefEqProofs only [go_sem, ↓reduceIte, Nat.reduceEqDiff, Nat.reduceLT, Nat.reduceAdd, Nat.reduceMul, Nat.reduceLeDiff, Nat.le_refl, Int.natCast_zero, Int.toNat_natCast, Int.reduceToNat, *])
    all_goals first
      | omega | (refine ⟨?_, ?_⟩ <;> omega) | (simp; done) | (simp; omega)
      | rfl
      | (simp_all; done)
      | (simp_all; omega)
      | trace_state
  · have hl := flt_len (openAt t keys) t[0].length
    simp -dsimp -implicitDefEqProofs only [pick_nil, pick_cons, look_nil, look_cons, dropB_nil, dropB_cons, inD_nil, inD_cons, inE_nil, inE_cons, or_t_l, or_f_l, Nat.reduceBEq, Nat.reduceDiv, Nat.reduceAdd, beq_self_eq_true, Bool.false_eq_true, Bool.or_false, ↓reduceIte, Nat.reduceEqDiff, List.cons_append, List.nil_append]
    simp -dsimp -implicitDefEqProofs only [go_sem, ↓reduceIte, Nat.reduceEqDiff, Nat.reduceLT, Nat.reduceAdd, Nat.reduceMul, Nat.reduceLeDiff, Nat.le_refl, Int.natCast_zero, Int.toNat_natCast, Int.reduceToNat, nlt_len, g0]
    repeat' (with_reducible refine And.intro ?_ ?_)
    all_goals first
      | omega | (refine ⟨?_, ?_⟩ <;> omega) | (simp; done) | (simp; omega)
      | rfl
      | trace_state
set_option maxHeartbeats 4000000 in
theorem c_iOpenFor (t : List (List Int)) (keys : List Int) (h : t.length ≤ 1048576) (h2 : ∀ x ∈ t, x.length ≤ 1048576) (h3 : keys.length ≤ 1048576) : Fn Try.prog 12 [eIss t, eIs keys] true (· = .tup [eIs (openFor t keys).1, eI (openFor t keys).2]) := by
  refine Fn.of_vcN 33 [.tmp 4, .tmp 5] Try.func12 rfl rfl rfl rfl rfl (of_decide_eq_true rfl) ?_
  rcases hb : isTb t with _ | _
  · simp -dsimp -implicitDefEqProofs only [go_sem, ↓reduceIte, Nat.reduceEqDiff, Nat.reduceLT, Nat.reduceAdd, Nat.reduceMul, Nat.reduceLeDiff, Nat.le_refl, Int.natCast_zero, Int.toNat_natCast, Int.reduceToNat]
    repeat' first
      | (refine Br.intro (fun _ => ?_) (fun _ => ?_) <;> try simp -dsimp -implicitDefEqProofs only [go_sem, ↓reduceIte, Nat.reduceEqDiff, Nat.reduceLT, Nat.reduceAdd, Nat.reduceMul, Nat.reduceLeDiff, Nat.le_refl, Int.natCast_zero, Int.toNat_natCast, Int.reduceToNat, *])
      | (with_reducible refine And.intro ?_ ?_)
      | (refine sCallT_one (c_iIsTable t h h2) ?_; try simp -dsimp -implicitDefEqProofs only [go_sem, ↓reduceIte, Nat.reduceEqDiff, Nat.reduceLT, Nat.reduceAdd, Nat.reduceMul, Nat.reduceLeDiff, Nat.le_refl, Int.natCast_zero, Int.toNat_natCast, Int.reduceToNat, *])
    all_goals first
      | omega
      | (simp_all [openFor]; done)
      | trace_state
  rcases hr : rises keys (t.length : Int) with _ | _
  · simp -dsimp -implicitDefEqProofs only [go_sem, ↓reduceIte, Nat.reduceEqDiff, Nat.reduceLT, Nat.reduceAdd, Nat.reduceMul, Nat.reduceLeDiff, Nat.le_refl, Int.natCast_zero, Int.toNat_natCast, Int.reduceToNat]
    repeat' first
      | (refine Br.intro (fun _ => ?_) (fun _ => ?_) <;> try simp -dsimp -implicitDefEqProofs only [go_sem, ↓reduceIte, Nat.reduceEqDiff, Nat.reduceLT, Nat.reduceAdd, Nat.reduceMul, Nat.reduceLeDiff, Nat.le_refl, Int.natCast_zero, Int.toNat_natCast, Int.reduceToNat, *])
      | (with_reducible refine And.intro ?_ ?_)
      | (refine sCallT_one (c_iIsTable t h h2) ?_; try simp -dsimp -implicitDefEqProofs only [go_sem, ↓reduceIte, Nat.reduceEqDiff, Nat.reduceLT, Nat.reduceAdd, Nat.reduceMul, Nat.reduceLeDiff, Nat.le_refl, Int.natCast_zero, Int.toNat_natCast, Int.reduceToNat, *])
      | (refine sCallT_one (c_IsRising keys _ (by omega)) ?_; try simp -dsimp -implicitDefEqProofs only [go_sem, ↓reduceIte, Nat.reduceEqDiff, Nat.reduceLT, Nat.reduceAdd, Nat.reduceMul, Nat.reduceLeDiff, Nat.le_refl, Int.natCast_zero, Int.toNat_natCast, Int.reduceToNat, *])
    all_goals first
      | omega
      | (simp_all [openFor]; done)
      | trace_state
  have hF : openFor t keys = (flt (openAt t keys) (t.getD 0 []).length, 0) := by rw [openFor, hb, hr]; rfl
  obtain ⟨n1, n2, n3, n4, n5⟩ := isTb_num hb
  have h00 : 0 < t.length := by omega
  have g0 := get_some h00
  have gd : t.getD 0 [] = t[0] := by simp [List.getD_eq_getElem?_getD, h00]
  have hog : ∀ k (hk : k < (t.getD 0 []).length) i (hi : i < keys.length), _ := fun k hk i hi => open_get hb hr hk hi
  rw [gd] at n3 n4 n5 hF hog
  rw [hF]
  clear hF gd
  simp -dsimp -implicitDefEqProofs only [go_sem, ↓reduceIte, Nat.reduceEqDiff, Nat.reduceLT, Nat.reduceAdd, Nat.reduceMul, Nat.reduceLeDiff, Nat.le_refl, Int.natCast_zero, Int.toNat_natCast, Int.reduceToNat, g0]
  repeat' first
    | (refine Br.intro (fun _ => ?_) (fun _ => ?_) <;> try simp -dsimp -implicitDefEqProofs only [go_sem, ↓reduceIte, Nat.reduceEqDiff, Nat.reduceLT, Nat.reduceAdd, Nat.reduceMul, Nat.reduceLeDiff, Nat.le_refl, Int.natCast_zero, Int.toNat_natCast, Int.reduceToNat, *])
    | (with_reducible refine And.intro ?_ ?_)
    | (refine sCallT_one (c_iIsTable t h h2) ?_; try simp -dsimp -implicitDefEqProofs only [go_sem, ↓reduceIte, Nat.reduceEqDiff, Nat.reduceLT, Nat.reduceAdd, Nat.reduceMul, Nat.reduceLeDiff, Nat.le_refl, Int.natCast_zero, Int.toNat_natCast, Int.reduceToNat, *])
    | (refine sCallT_one (c_IsRising keys _ (by omega)) ?_; try simp -dsimp -implicitDefEqProofs only [go_sem, ↓reduceIte, Nat.reduceEqDiff, Nat.reduceLT, Nat.reduceAdd, Nat.reduceMul, Nat.reduceLeDiff, Nat.le_refl, Int.natCast_zero, Int.toNat_natCast, Int.reduceToNat, *])
  all_goals try (first | omega | (simp_all; done))
  clear hb hr
  refine Later.up [1, 2, 20] [7, 26, 29, 30] [16] t[0].length (fun _ => True) (fun i => [(21, eI i), (6, .ref 16 0 0 (flt (openAt t keys) i).length)]) (fun i => [(16, .row 0 ⟨1, false⟩ true ((flt (openAt t keys) i).map eI))]) trivial ?_ rfl (fun k hk _ => ?_) (fun _ => ?_)
  · simp -dsimp -implicitDefEqProofs only [go_sem, ↓reduceIte, Nat.reduceEqDiff, Nat.reduceLT, Nat.reduceAdd, Nat.reduceMul, Nat.reduceLeDiff, Nat.le_refl, Int.natCast_zero, Int.toNat_natCast, Int.reduceToNat, flt_zero]
    all_goals simp
  · have hl := flt_len (openAt t keys) k
    have hs := flt_succ (openAt t keys) k
    have hok : ∀ i (hi : i < keys.length), _ := fun i hi => hog k hk i hi
    clear hog
    have hyes : ∀ i (hi : i < keys.length), open1 t k keys[i] = true → openAt t keys k = true := fun i hi h => List.any_eq_true.2 ⟨_, List.getElem_mem hi, h⟩
    have hno : (∀ i (hi : i < keys.length), open1 t k keys[i] = false) → openAt t keys k = false := fun h => List.any_eq_false.2 fun x hx => by
      obtain ⟨i, hi, rfl⟩ := List.getElem_of_mem hx
      rw [h i hi]; decide
    generalize openAt t keys k = ok at hs hyes hno
    simp -dsimp -implicitDefEqProofs only [pick_nil, pick_cons, look_nil, look_cons, dropB_nil, dropB_cons, inD_nil, inD_cons, inE_nil, inE_cons, or_t_l, or_f_l, Nat.reduceBEq, Nat.reduceDiv, Nat.reduceAdd, beq_self_eq_true, Bool.false_eq_true, Bool.or_false, ↓reduceIte, Nat.reduceEqDiff, List.cons_append, List.nil_append]
    rw [hs]
    clear hs
    simp -dsimp -implicitDefEqProofs only [go_sem, ↓reduceIte, Nat.reduceEqDiff, Nat.reduceLT, Nat.reduceAdd, Nat.reduceMul, Nat.reduceLeDiff, Nat.le_refl, Int.natCast_zero, Int.toNat_natCast, Int.reduceToNat, lt_len hk, g0]
    ((repeat' (first | (refine Br.intro (fun _ => ?_) (fun _ => ?_) <;> try simp -dsimp -implicitDefEqProofs only [go_sem, ↓reduceIte, Nat.reduceEqDiff, Nat.reduceLT, Nat.reduceAdd, Nat.reduceMul, Nat.reduceLeDiff, Nat.le_refl, Int.natCast_zero, Int.toNat_natCast, Int.reduceToNat, *]) | (with_reducible refine And.intro ?_ ?_) | (refine Later.draw mixed rfl ?_; try simp -dsimp -implicitDefEqProofs only [go_sem, ↓reduceIte, Nat.reduceEqDiff, Nat.reduceLT, Nat.reduceAdd, Nat.reduceMul, Nat.reduceLeDiff, Nat.le_refl, Int.natCast_zero, Int.toNat_natCast, Int.reduceToNat, *]))); all_goals try (first | omega | (refine ⟨?_, ?_⟩ <;> omega) | (exact rfl) | (simp; done)))
    refine sCallT_inl 400000 9 [.tmp 4] Try.func31 rfl rfl rfl rfl rfl (by exact of_decide_eq_true rfl) ?_
    simp -dsimp -implicitDefEqProofs only [go_sem, ↓reduceIte, Nat.reduceEqDiff, Nat.reduceLT, Nat.reduceAdd, Nat.reduceMul, Nat.reduceLeDiff, Nat.le_refl, Int.natCast_zero, Int.toNat_natCast, Int.reduceToNat]
    refine sCallT_inl 410000 19 [.tmp 4] Try.func46 rfl rfl rfl rfl rfl (by exact of_decide_eq_true rfl) ?_
    simp -dsimp -implicitDefEqProofs only [go_sem, ↓reduceIte, Nat.reduceEqDiff, Nat.reduceLT, Nat.reduceAdd, Nat.reduceMul, Nat.reduceLeDiff, Nat.le_refl, Int.natCast_zero, Int.toNat_natCast, Int.reduceToNat]
    refine Later.up [0, 1, 7] [16] [] keys.length (fun i => ∀ j (hj : j < keys.length), j < i → open1 t k keys[j] = false) (fun i => [(8, eI i)]) (fun _ => []) (fun j _ h => absurd h (Nat.not_lt_zero _)) ?_ rfl (fun i hi hI => ?_) (fun hI => ?_)
    · simp -dsimp -implicitDefEqProofs only [go_sem, ↓reduceIte, Nat.reduceEqDiff, Nat.reduceLT, Nat.reduceAdd, Nat.reduceMul, Nat.reduceLeDiff, Nat.le_refl, Int.natCast_zero, Int.toNat_natCast, Int.reduceToNat]
      all_goals first | (simp; done) | trace_state
    · obtain ⟨e1, e2, e3, e4⟩ := hok i hi
      have gi := get_some hi
      have li := lt_len hi
      have ga := get_some e1
      have gb := get_some e2
      rcases hv : (t[keys[i].toNat][k] == 1) with _ | _
      · rw [hv] at e4
        have hI' : ∀ j (hj : j < keys.length), j < i + 1 → open1 t k keys[j] = false := fun j hj h => by
          by_cases hji : j = i
          · subst hji; exact e4
          · exact hI j hj (by omega)
        clear e4 hok hno hyes hI
        simp -dsimp -implicitDefEqProofs only [pick_nil, pick_cons, look_nil, look_cons, dropB_nil, dropB_cons, inD_nil, inD_cons, inE_nil, inE_cons, or_t_l, or_f_l, Nat.reduceBEq, Nat.reduceDiv, Nat.reduceAdd, beq_self_eq_true, Bool.false_eq_true, Bool.or_false, ↓reduceIte, Nat.reduceEqDiff, List.cons_append, List.nil_append]
        simp -dsimp -implicitDefEqProofs only [go_sem, ↓reduceIte, Nat.reduceEqDiff, Nat.reduceLT, Nat.reduceAdd, Nat.reduceMul, Nat.reduceLeDiff, Nat.le_refl, Int.natCast_zero, Int.toNat_natCast, Int.reduceToNat, gi, li]
        refine ⟨⟨by omega, by omega⟩, ?_⟩
        refine sCallT_inl 420000 13 [.tmp 4] Try.func32 rfl rfl rfl rfl rfl (by exact of_decide_eq_true rfl) ?_
        simp -dsimp -implicitDefEqProofs only [go_sem, ↓reduceIte, Nat.reduceEqDiff, Nat.reduceLT, Nat.reduceAdd, Nat.reduceMul, Nat.reduceLeDiff, Nat.le_refl, Int.natCast_zero, Int.toNat_natCast, Int.reduceToNat, ga, gb, hv]
        ((repeat' (first | (refine Br.intro (fun _ => ?_) (fun _ => ?_) <;> try simp -dsimp -implicitDefEqProofs only [go_sem, ↓reduceIte, Nat.reduceEqDiff, Nat.reduceLT, Nat.reduceAdd, Nat.reduceMul, Nat.reduceLeDiff, Nat.le_refl, Int.natCast_zero, Int.toNat_natCast, Int.reduceToNat, *]) | (with_reducible refine And.intro ?_ ?_) | (refine Later.draw mixed rfl ?_; try simp -dsimp -implicitDefEqProofs only [go_sem, ↓reduceIte, Nat.reduceEqDiff, Nat.reduceLT, Nat.reduceAdd, Nat.reduceMul, Nat.reduceLeDiff, Nat.le_refl, Int.natCast_zero, Int.toNat_natCast, Int.reduceToNat, *]))); all_goals try (first | omega | (refine ⟨?_, ?_⟩ <;> omega) | (exact rfl) | (simp; done)))
        all_goals trace_state
      · rw [hv] at e4
        have hy := hyes i hi e4
        clear e4 hok hno hyes hI
        subst hy
        simp -dsimp -implicitDefEqProofs only [pick_nil, pick_cons, look_nil, look_cons, dropB_nil, dropB_cons, inD_nil, inD_cons, inE_nil, inE_cons, or_t_l, or_f_l, Nat.reduceBEq, Nat.reduceDiv, Nat.reduceAdd, beq_self_eq_true, Bool.false_eq_true, Bool.or_false, ↓reduceIte, Nat.reduceEqDiff, List.cons_append, List.nil_append]
        simp -dsimp -implicitDefEqProofs only [go_sem, ↓reduceIte, Nat.reduceEqDiff, Nat.reduceLT, Nat.reduceAdd, Nat.reduceMul, Nat.reduceLeDiff, Nat.le_refl, Int.natCast_zero, Int.toNat_natCast, Int.reduceToNat, gi, li]
        refine ⟨⟨by omega, by omega⟩, ?_⟩
        refine sCallT_inl 420000 13 [.tmp 4] Try.func32 rfl rfl rfl rfl rfl (by exact of_decide_eq_true rfl) ?_
        simp -dsimp -implicitDefEqProofs only [go_sem, ↓reduceIte, Nat.reduceEqDiff, Nat.reduceLT, Nat.reduceAdd, Nat.reduceMul, Nat.reduceLeDiff, Nat.le_refl, Int.natCast_zero, Int.toNat_natCast, Int.reduceToNat, ga, gb, hv]
        ((repeat' (first | (refine Br.intro (fun _ => ?_) (fun _ => ?_) <;> try simp -dsimp -implicitDefEqProofs only [go_sem, ↓reduceIte, Nat.reduceEqDiff, Nat.reduceLT, Nat.reduceAdd, Nat.reduceMul, Nat.reduceLeDiff, Nat.le_refl, Int.natCast_zero, Int.toNat_natCast, Int.reduceToNat, *]) | (with_reducible refine And.intro ?_ ?_) | (refine Later.draw mixed rfl ?_; try simp -dsimp -implicitDefEqProofs only [go_sem, ↓reduceIte, Nat.reduceEqDiff, Nat.reduceLT, Nat.reduceAdd, Nat.reduceMul, Nat.reduceLeDiff, Nat.le_refl, Int.natCast_zero, Int.toNat_natCast, Int.reduceToNat, *]))); all_goals try (first | omega | (refine ⟨?_, ?_⟩ <;> omega) | (exact rfl) | (simp; done)))
        all_goals first
          | (rename_i h; exact absurd (of_decide_eq_false h) (by omega))
          | trace_state
    · have hn := hno fun j hj => hI j hj hj
      clear hno hyes hI hok
      subst hn
      simp -dsimp -implicitDefEqProofs only [pick_nil, pick_cons, look_nil, look_cons, dropB_nil, dropB_cons, inD_nil, inD_cons, inE_nil, inE_cons, or_t_l, or_f_l, Nat.reduceBEq, Nat.reduceDiv, Nat.reduceAdd, beq_self_eq_true, Bool.false_eq_true, Bool.or_false, ↓reduceIte, Nat.reduceEqDiff, List.cons_append, List.nil_append]
      simp -dsimp -implicitDefEqProofs only [go_sem, ↓reduceIte, Nat.reduceEqDiff, Nat.reduceLT, Nat.reduceAdd, Nat.reduceMul, Nat.reduceLeDiff, Nat.le_refl, Int.natCast_zero, Int.toNat_natCast, Int.reduceToNat, nlt_len]
      ((repeat' (first | (refine Br.intro (fun _ => ?_) (fun _ => ?_) <;> try simp -dsimp -implicitDefEqProofs only [go_sem, ↓reduceIte, Nat.reduceEqDiff, Nat.reduceLT, Nat.reduceAdd, Nat.reduceMul, Nat.reduceLeDiff, Nat.le_refl, Int.natCast_zero, Int.toNat_natCast, Int.reduceToNat, *]) | (with_reducible refine And.intro ?_ ?_) | (refine Later.draw mixed rfl ?_; try simp -dsimp -implicitDefEqProofs only [go_sem, ↓reduceIte, Nat.reduceEqDiff, Nat.reduceLT, Nat.reduceAdd, Nat.reduceMul, Nat.reduceLeDiff, Nat.le_refl, Int.natCast_zero, Int.toNat_natCast, Int.reduceToNat, *]))); all_goals try (first | omega | (refine ⟨?_, ?_⟩ <;> omega) | (exact rfl) | (simp; done)))
      all_goals first
        | (rename_i h; exact absurd h (by decide))
        | trace_state
  · have hl := flt_len (openAt t keys) t[0].length
    simp -dsimp -implicitDefEqProofs only [pick_nil, pick_cons, look_nil, look_cons, dropB_nil, dropB_cons, inD_nil, inD_cons, inE_nil, inE_cons, or_t_l, or_f_l, Nat.reduceBEq, Nat.reduceDiv, Nat.reduceAdd, beq_self_eq_true, Bool.false_eq_true, Bool.or_false, ↓reduceIte, Nat.reduceEqDiff, List.cons_append, List.nil_append]
    simp -dsimp -implicitDefEqProofs only [go_sem, ↓reduceIte, Nat.reduceEqDiff, Nat.reduceLT, Nat.reduceAdd, Nat.reduceMul, Nat.reduceLeDiff, Nat.le_refl, Int.natCast_zero, Int.toNat_natCast, Int.reduceToNat, nlt_len, g0]
    repeat' (with_reducible refine And.intro ?_ ?_)
    all_goals first
      | omega | (refine ⟨?_, ?_⟩ <;> omega) | (simp; done) | (simp; omega)
      | rfl
      | trace_state
end Go.Vc


/-
  Contracts: the doors that a person opens; the law on it.
-/
set_option linter.unusedVariables false
set_option linter.unusedSimpArgs false
set_option linter.unnecessarySimpa false
namespace Go.Vc
open Go.Proofs
set_option maxRecDepth 100000
theorem tw_mem {ts : List TagM} {p : Int} {n : Nat} {x : Int} (hn : n ≤ ts.length) (h : x ∈ tw ts p n) : 0 ≤ x ∧ x.toNat < ts.length := by
  simp only [tw, List.mem_map, List.mem_filter, List.mem_range] at h
  obtain ⟨j, ⟨h1, _⟩, rfl⟩ := h
  simp; omega
def rowAt (r : RegM) (k : Int) : Int := (r.tags.getD k.toNat ⟨0, 0, 0⟩).row
def heldRows (r : RegM) (p : Int) : List Int := (tw r.tags p r.tags.length).map (rowAt r)
def personDoors (r : RegM) (t : List (List Int)) (p : Int) : List Int × Int :=
  if isTb t then (if isReg r then (if isIn p 0 (r.roles.length - 1) then openFor t (rowsL (heldRows r p)) else ([], 2)) else ([], 1)) else ([], 1)
theorem rowAt_get {r : RegM} {p : Int} {i : Nat} (hi : i < (tw r.tags p r.tags.length).length) :
    ∃ h : ((tw r.tags p r.tags.length)[i]).toNat < r.tags.length, 0 ≤ (tw r.tags p r.tags.length)[i] ∧ rowAt r (tw r.tags p r.tags.length)[i] = (r.tags[((tw r.tags p r.tags.length)[i]).toNat]).row := by
  obtain ⟨h1, h2⟩ := tw_mem (Nat.le_refl _) (List.getElem_mem hi)
  exact ⟨h2, h1, by rw [rowAt, List.getD_eq_getElem?_getD, List.getElem?_eq_getElem h2]; rfl⟩
theorem heldRows_nn {r : RegM} (h : isReg r = true) (p : Int) : ∀ x ∈ heldRows r p, 0 ≤ x := by
  intro x hx
  simp only [heldRows, List.mem_map] at hx
  obtain ⟨k, hk, rfl⟩ := hx
  obtain ⟨h1, h2⟩ := tw_mem (Nat.le_refl _) hk
  rw [rowAt, List.getD_eq_getElem?_getD, List.getElem?_eq_getElem h2]
  simp only [isReg, Bool.and_eq_true, List.all_eq_true] at h
  have := h.2 _ (List.getElem_mem h2)
  simp only [isTag, Bool.and_eq_true, isIn, decide_eq_true_eq] at this
  show 0 ≤ (r.tags[k.toNat]).row
  omega
theorem heldRows_len (r : RegM) (p : Int) : (heldRows r p).length ≤ r.tags.length := by rw [heldRows, List.length_map]; exact tw_len _ _ _
theorem openFor_far {t : List (List Int)} {xs : List Int} {x : Int} (hb : isTb t = true) (hx : x ∈ xs) (h : (t.length : Int) ≤ x) : openFor t (rowsL xs) = ([], 2) := by
  have : rises (rowsL xs) t.length = false := by
    rw [Bool.eq_false_iff]
    intro hr
    have hm := (rowsL_mem xs x).2 hx
    obtain ⟨i, hi, e⟩ := List.getElem_of_mem hm
    have := ((rises_iff _ _).1 hr).1 i hi
    rw [e] at this
    omega
  rw [openFor, if_pos hb, this]; rfl
theorem openFor_len (t : List (List Int)) (keys : List Int) : (openFor t keys).1.length ≤ 12 := by
  unfold openFor
  split
  · rename_i hb
    split
    · have := flt_len (openAt t keys) (t.getD 0 []).length
      have := (isTb_num hb).2.2.2.1
      show (flt _ _).length ≤ 12
      omega
    · simp
  · simp
theorem personDoors_len (r : RegM) (t : List (List Int)) (p : Int) : (personDoors r t p).1.length ≤ 12 := by
  unfold personDoors
  split
  · split
    · split
      · exact openFor_len _ _
      · simp
    · simp
  · simp
theorem c_iPersonDoors (r : RegM) (t : List (List Int)) (p : Int) (h1 : r.tags.length ≤ 1048576) (h2 : r.roles.length ≤ 1048576) (h3 : t.length ≤ 1048576) (h4 : ∀ x ∈ t, x.length ≤ 1048576) :
    Fn Try.prog 9 [eReg r, eIss t, eI p] true (· = .tup [eIs (personDoors r t p).1, eI (personDoors r t p).2]) := by
  refine Fn.of_vcN 48 [.tmp 6, .tmp 7] Try.func9 rfl rfl rfl rfl rfl (of_decide_eq_true rfl) ?_
  by_cases hc : isTb t = true ∧ isReg r = true ∧ isIn p 0 (r.roles.length - 1) = true
  · obtain ⟨hb, hg, hi⟩ := hc
    have hF : personDoors r t p = openFor t (rowsL (heldRows r p)) := by rw [personDoors, if_pos hb, if_pos hg, if_pos hi]
    have hT : tagsWith r p = (tw r.tags p r.tags.length, 0) := by rw [tagsWith, if_pos hg, if_pos hi]
    rw [hF]
    clear hF
    have hc1 := c_iTagsWith r p h1 h2
    rw [hT] at hc1
    clear hT
    have hl1 := tw_len r.tags p r.tags.length
    have hl2 := heldRows_len r p
    have hl3 := rowsL_len (heldRows r p)
    have hget := fun i hi => rowAt_get (r := r) (p := p) (i := i) hi
    have hh : heldRows r p = (tw r.tags p r.tags.length).map (rowAt r) := rfl
    generalize tw r.tags p r.tags.length = T at hc1 hl1 hget hh
    simp -dsimp -implicitDefEqProofs only [go_sem, ↓reduceIte, Nat.reduceEqDiff, Nat.reduceLT, Nat.reduceAdd, Nat.reduceMul, Nat.reduceLeDiff, Nat.le_refl, Int.natCast_zero, Int.toNat_natCast, Int.reduceToNat]
    repeat' first
      | (refine Br.intro (fun _ => ?_) (fun _ => ?_) <;> try simp -dsimp -implicitDefEqProofs only [go_sem, ↓reduceIte, Nat.reduceEqDiff, Nat.reduceLT, Nat.reduceAdd, Nat.reduceMul, Nat.reduceLeDiff, Nat.le_refl, Int.natCast_zero, Int.toNat_natCast, Int.reduceToNat, *])
      | (with_reducible refine And.intro ?_ ?_)
      | (refine sCallT_one (c_iIsTable t h3 h4) ?_; try simp -dsimp -implicitDefEqProofs only [go_sem, ↓reduceIte, Nat.reduceEqDiff, Nat.reduceLT, Nat.reduceAdd, Nat.reduceMul, Nat.reduceLeDiff, Nat.le_refl, Int.natCast_zero, Int.toNat_natCast, Int.reduceToNat, *])
      | (refine sCallT_one (hc1) ?_; try simp -dsimp -implicitDefEqProofs only [go_sem, ↓reduceIte, Nat.reduceEqDiff, Nat.reduceLT, Nat.reduceAdd, Nat.reduceMul, Nat.reduceLeDiff, Nat.le_refl, Int.natCast_zero, Int.toNat_natCast, Int.reduceToNat, *])
    all_goals try (first | omega | (simp; done) | (simp_all; done))
    refine Later.up [1, 3, 26, 27] [39, 40] [25] T.length (fun _ => True) (fun i => [(28, eI i), (10, .ref 25 0 0 i)]) (fun i => [(25, .row 0 ⟨1, false⟩ true (((T.take i).map (rowAt r)).map eI))]) trivial ?_ rfl (fun i hi _ => ?_) (fun _ => ?_)
    · simp -dsimp -implicitDefEqProofs only [go_sem, ↓reduceIte, Nat.reduceEqDiff, Nat.reduceLT, Nat.reduceAdd, Nat.reduceMul, Nat.reduceLeDiff, Nat.le_refl, Int.natCast_zero, Int.toNat_natCast, Int.reduceToNat]
      all_goals first | (simp; done) | omega | rfl | trace_state
    · obtain ⟨e1, e2, e3⟩ := hget i hi
      have gi := get_some hi
      have li := lt_len hi
      have ga := get_some e1
      have hml : (T.take i).length = i := by simp; omega
      have hs : (T.take (i + 1)).map (rowAt r) = (T.take i).map (rowAt r) ++ [r.tags[T[i].toNat].row] := by rw [List.take_succ_eq_append_getElem hi, List.map_append, ← e3]; rfl
      clear hget e3 hc1 hb hg hh
      simp -dsimp -implicitDefEqProofs only [pick_nil, pick_cons, look_nil, look_cons, dropB_nil, dropB_cons, inD_nil, inD_cons, inE_nil, inE_cons, or_t_l, or_f_l, Nat.reduceBEq, Nat.reduceDiv, Nat.reduceAdd, beq_self_eq_true, Bool.false_eq_true, Bool.or_false, ↓reduceIte, Nat.reduceEqDiff, List.cons_append, List.nil_append]
      rw [hs]
      clear hs
      simp -dsimp -implicitDefEqProofs only [go_sem, ↓reduceIte, Nat.reduceEqDiff, Nat.reduceLT, Nat.reduceAdd, Nat.reduceMul, Nat.reduceLeDiff, Nat.le_refl, Int.natCast_zero, Int.toNat_natCast, Int.reduceToNat, gi, li, ga, hml]
      repeat' first
        | (refine Br.intro (fun _ => ?_) (fun _ => ?_) <;> try simp -dsimp -implicitDefEqProofs only [go_sem, ↓reduceIte, Nat.reduceEqDiff, Nat.reduceLT, Nat.reduceAdd, Nat.reduceMul, Nat.reduceLeDiff, Nat.le_refl, Int.natCast_zero, Int.toNat_natCast, Int.reduceToNat, *])
        | (with_reducible refine And.intro ?_ ?_)
        | (refine Later.draw mixed rfl ?_; try simp -dsimp -implicitDefEqProofs only [go_sem, ↓reduceIte, Nat.reduceEqDiff, Nat.reduceLT, Nat.reduceAdd, Nat.reduceMul, Nat.reduceLeDiff, Nat.le_refl, Int.natCast_zero, Int.toNat_natCast, Int.reduceToNat, *])
      all_goals first
        | omega | (refine ⟨?_, ?_⟩ <;> omega) | (simp; done) | (simp; omega)
        | rfl
        | (simp_all; done)
        | (simp_all; omega)
        | trace_state
    · have hml : T.length = (heldRows r p).length := by rw [hh, List.length_map]
      rw [List.take_length, ← hh, hml]
      clear hget hh hb hg
      simp -dsimp -implicitDefEqProofs only [pick_nil, pick_cons, look_nil, look_cons, dropB_nil, dropB_cons, inD_nil, inD_cons, inE_nil, inE_cons, or_t_l, or_f_l, Nat.reduceBEq, Nat.reduceDiv, Nat.reduceAdd, beq_self_eq_true, Bool.false_eq_true, Bool.or_false, ↓reduceIte, Nat.reduceEqDiff, List.cons_append, List.nil_append]
      simp -dsimp -implicitDefEqProofs only [go_sem, ↓reduceIte, Nat.reduceEqDiff, Nat.reduceLT, Nat.reduceAdd, Nat.reduceMul, Nat.reduceLeDiff, Nat.le_refl, Int.natCast_zero, Int.toNat_natCast, Int.reduceToNat, nlt_len]
      repeat' first
        | (with_reducible refine And.intro ?_ ?_)
        | (refine sCallT_one (c_rowsOf (heldRows r p) (by omega)) ?_; try simp -dsimp -implicitDefEqProofs only [go_sem, ↓reduceIte, Nat.reduceEqDiff, Nat.reduceLT, Nat.reduceAdd, Nat.reduceMul, Nat.reduceLeDiff, Nat.le_refl, Int.natCast_zero, Int.toNat_natCast, Int.reduceToNat, *])
        | (refine sCallT_one (c_iOpenFor t (rowsL (heldRows r p)) h3 h4 (by omega)) ?_; try simp -dsimp -implicitDefEqProofs only [go_sem, ↓reduceIte, Nat.reduceEqDiff, Nat.reduceLT, Nat.reduceAdd, Nat.reduceMul, Nat.reduceLeDiff, Nat.le_refl, Int.natCast_zero, Int.toNat_natCast, Int.reduceToNat, *])
      all_goals first
        | omega | (refine ⟨?_, ?_⟩ <;> omega) | (simp; done) | (simp; omega)
        | rfl
        | (simp; done)
        | (simp_all; done)
        | trace_state
  · have hF : personDoors r t p = ([], if isTb t && isReg r then 2 else 1) := by
      unfold personDoors
      cases hb : isTb t <;> cases hg : isReg r <;> cases hi : isIn p 0 (r.roles.length - 1) <;> simp_all
    have hT : isTb t = true → tagsWith r p = ([], if isReg r then 2 else 1) := by
      intro hb
      unfold tagsWith
      cases hg : isReg r <;> cases hi : isIn p 0 (r.roles.length - 1) <;> simp_all
    rw [hF]
    clear hF hc
    cases hb : isTb t
    · simp -dsimp -implicitDefEqProofs only [go_sem, ↓reduceIte, Nat.reduceEqDiff, Nat.reduceLT, Nat.reduceAdd, Nat.reduceMul, Nat.reduceLeDiff, Nat.le_refl, Int.natCast_zero, Int.toNat_natCast, Int.reduceToNat]
      repeat' first
        | (refine Br.intro (fun _ => ?_) (fun _ => ?_) <;> try simp -dsimp -implicitDefEqProofs only [go_sem, ↓reduceIte, Nat.reduceEqDiff, Nat.reduceLT, Nat.reduceAdd, Nat.reduceMul, Nat.reduceLeDiff, Nat.le_refl, Int.natCast_zero, Int.toNat_natCast, Int.reduceToNat, *])
        | (with_reducible refine And.intro ?_ ?_)
        | (refine sCallT_one (c_iIsTable t h3 h4) ?_; try simp -dsimp -implicitDefEqProofs only [go_sem, ↓reduceIte, Nat.reduceEqDiff, Nat.reduceLT, Nat.reduceAdd, Nat.reduceMul, Nat.reduceLeDiff, Nat.le_refl, Int.natCast_zero, Int.toNat_natCast, Int.reduceToNat, *])
      all_goals first
        | omega
        | (simp_all; done)
        | trace_state
    · have hc1 := c_iTagsWith r p h1 h2
      rw [hT hb] at hc1
      clear hT
      cases hg : isReg r
      all_goals
        rw [hg] at hc1
        simp -dsimp -implicitDefEqProofs only [go_sem, ↓reduceIte, Nat.reduceEqDiff, Nat.reduceLT, Nat.reduceAdd, Nat.reduceMul, Nat.reduceLeDiff, Nat.le_refl, Int.natCast_zero, Int.toNat_natCast, Int.reduceToNat]
        repeat' first
          | (refine Br.intro (fun _ => ?_) (fun _ => ?_) <;> try simp -dsimp -implicitDefEqProofs only [go_sem, ↓reduceIte, Nat.reduceEqDiff, Nat.reduceLT, Nat.reduceAdd, Nat.reduceMul, Nat.reduceLeDiff, Nat.le_refl, Int.natCast_zero, Int.toNat_natCast, Int.reduceToNat, *])
          | (with_reducible refine And.intro ?_ ?_)
          | (refine sCallT_one (c_iIsTable t h3 h4) ?_; try simp -dsimp -implicitDefEqProofs only [go_sem, ↓reduceIte, Nat.reduceEqDiff, Nat.reduceLT, Nat.reduceAdd, Nat.reduceMul, Nat.reduceLeDiff, Nat.le_refl, Int.natCast_zero, Int.toNat_natCast, Int.reduceToNat, *])
          | (refine sCallT_one (hc1) ?_; try simp -dsimp -implicitDefEqProofs only [go_sem, ↓reduceIte, Nat.reduceEqDiff, Nat.reduceLT, Nat.reduceAdd, Nat.reduceMul, Nat.reduceLeDiff, Nat.le_refl, Int.natCast_zero, Int.toNat_natCast, Int.reduceToNat, *])
        all_goals first
          | omega
          | (simp_all; done)
          | trace_state
theorem c_sPersonDoors (r : RegM) (t : List (List Int)) (p : Int) (h1 : r.tags.length ≤ 1048576) (h2 : r.roles.length ≤ 1048576) (h3 : t.length ≤ 1048576) (h4 : ∀ x ∈ t, x.length ≤ 1048576) :
    Fn Try.prog 10 [eReg r, eIss t, eI p] true (· = .tup [eIs (personDoors r t p).1, eI (personDoors r t p).2]) := by
  refine Fn.of_vcN 57 [.tmp 6, .tmp 7] Try.func10 rfl rfl rfl rfl rfl (of_decide_eq_true rfl) ?_
  by_cases hc : isTb t = true ∧ isReg r = true ∧ isIn p 0 (r.roles.length - 1) = true
  · obtain ⟨hb, hg, hi⟩ := hc
    have hF : personDoors r t p = openFor t (rowsL (heldRows r p)) := by rw [personDoors, if_pos hb, if_pos hg, if_pos hi]
    rw [hF]
    clear hF
    have hc1 := c_l30With r p h1 h2
    have hl1 := tw_len r.tags p r.tags.length
    have hl2 := heldRows_len r p
    have hl3 := rowsL_len (heldRows r p)
    have hnn := heldRows_nn hg p
    have hget := fun i hi => rowAt_get (r := r) (p := p) (i := i) hi
    have hh : heldRows r p = (tw r.tags p r.tags.length).map (rowAt r) := rfl
    generalize tw r.tags p r.tags.length = T at hc1 hl1 hget hh
    have hfar : ∀ i (hi : i < T.length), (t.length : Int) ≤ rowAt r T[i] → openFor t (rowsL (heldRows r p)) = ([], 2) := fun i hi hx => openFor_far hb (by rw [hh]; exact List.mem_map_of_mem (List.getElem_mem hi)) hx
    simp -dsimp -implicitDefEqProofs only [go_sem, ↓reduceIte, Nat.reduceEqDiff, Nat.reduceLT, Nat.reduceAdd, Nat.reduceMul, Nat.reduceLeDiff, Nat.le_refl, Int.natCast_zero, Int.toNat_natCast, Int.reduceToNat]
    repeat' first
      | (refine Br.intro (fun _ => ?_) (fun _ => ?_) <;> try simp -dsimp -implicitDefEqProofs only [go_sem, ↓reduceIte, Nat.reduceEqDiff, Nat.reduceLT, Nat.reduceAdd, Nat.reduceMul, Nat.reduceLeDiff, Nat.le_refl, Int.natCast_zero, Int.toNat_natCast, Int.reduceToNat, *])
      | (with_reducible refine And.intro ?_ ?_)
      | (refine sCallT_one (c_sIsRegister r) ?_; try simp -dsimp -implicitDefEqProofs only [go_sem, ↓reduceIte, Nat.reduceEqDiff, Nat.reduceLT, Nat.reduceAdd, Nat.reduceMul, Nat.reduceLeDiff, Nat.le_refl, Int.natCast_zero, Int.toNat_natCast, Int.reduceToNat, *])
      | (refine sCallX_one (c_sIsRegister r) ?_; try simp -dsimp -implicitDefEqProofs only [go_sem, ↓reduceIte, Nat.reduceEqDiff, Nat.reduceLT, Nat.reduceAdd, Nat.reduceMul, Nat.reduceLeDiff, Nat.le_refl, Int.natCast_zero, Int.toNat_natCast, Int.reduceToNat, *])
      | (refine sCallT_one (c_sIsTable t h3 h4) ?_; try simp -dsimp -implicitDefEqProofs only [go_sem, ↓reduceIte, Nat.reduceEqDiff, Nat.reduceLT, Nat.reduceAdd, Nat.reduceMul, Nat.reduceLeDiff, Nat.le_refl, Int.natCast_zero, Int.toNat_natCast, Int.reduceToNat, *])
      | (refine sCallX_one (c_sIsTable t h3 h4) ?_; try simp -dsimp -implicitDefEqProofs only [go_sem, ↓reduceIte, Nat.reduceEqDiff, Nat.reduceLT, Nat.reduceAdd, Nat.reduceMul, Nat.reduceLeDiff, Nat.le_refl, Int.natCast_zero, Int.toNat_natCast, Int.reduceToNat, *])
      | (refine sCallT_one (c_l30Person r p h2) ?_; try simp -dsimp -implicitDefEqProofs only [go_sem, ↓reduceIte, Nat.reduceEqDiff, Nat.reduceLT, Nat.reduceAdd, Nat.reduceMul, Nat.reduceLeDiff, Nat.le_refl, Int.natCast_zero, Int.toNat_natCast, Int.reduceToNat, *])
      | (refine sCallT_one (hc1) ?_; try simp -dsimp -implicitDefEqProofs only [go_sem, ↓reduceIte, Nat.reduceEqDiff, Nat.reduceLT, Nat.reduceAdd, Nat.reduceMul, Nat.reduceLeDiff, Nat.le_refl, Int.natCast_zero, Int.toNat_natCast, Int.reduceToNat, *])
      | (refine Later.draw mixed rfl ?_; try simp -dsimp -implicitDefEqProofs only [go_sem, ↓reduceIte, Nat.reduceEqDiff, Nat.reduceLT, Nat.reduceAdd, Nat.reduceMul, Nat.reduceLeDiff, Nat.le_refl, Int.natCast_zero, Int.toNat_natCast, Int.reduceToNat, *])
    all_goals try (first | omega | (exact rfl) | (simp; done) | (simp_all; done))
    refine Later.up [1, 3, 8] [30, 45, 49, 50] [27] T.length (fun _ => True) (fun i => [(10, eI i), (9, .ref 27 0 0 i)]) (fun i => [(27, .row 0 ⟨1, false⟩ true (((T.take i).map (rowAt r)).map eI))]) trivial ?_ rfl (fun i hi _ => ?_) (fun _ => ?_)
    · simp -dsimp -implicitDefEqProofs only [go_sem, ↓reduceIte, Nat.reduceEqDiff, Nat.reduceLT, Nat.reduceAdd, Nat.reduceMul, Nat.reduceLeDiff, Nat.le_refl, Int.natCast_zero, Int.toNat_natCast, Int.reduceToNat]
      all_goals first | (simp; done) | omega | rfl | trace_state
    · obtain ⟨e1, e2, e3⟩ := hget i hi
      have gi := get_some hi
      have li := lt_len hi
      have ga := get_some e1
      have hf := hfar i hi
      rw [e3] at hf
      have hml : (T.take i).length = i := by simp; omega
      have hs : (T.take (i + 1)).map (rowAt r) = (T.take i).map (rowAt r) ++ [r.tags[T[i].toNat].row] := by rw [List.take_succ_eq_append_getElem hi, List.map_append, ← e3]; rfl
      clear hget e3 hc1 hb hg hh hfar hnn
      generalize openFor t (rowsL (heldRows r p)) = O at hf
      simp -dsimp -implicitDefEqProofs only [pick_nil, pick_cons, look_nil, look_cons, dropB_nil, dropB_cons, inD_nil, inD_cons, inE_nil, inE_cons, or_t_l, or_f_l, Nat.reduceBEq, Nat.reduceDiv, Nat.reduceAdd, beq_self_eq_true, Bool.false_eq_true, Bool.or_false, ↓reduceIte, Nat.reduceEqDiff, List.cons_append, List.nil_append]
      rw [hs]
      clear hs
      simp -dsimp -implicitDefEqProofs only [go_sem, ↓reduceIte, Nat.reduceEqDiff, Nat.reduceLT, Nat.reduceAdd, Nat.reduceMul, Nat.reduceLeDiff, Nat.le_refl, Int.natCast_zero, Int.toNat_natCast, Int.reduceToNat, gi, li, ga, hml]
      repeat' first
        | (refine Br.intro (fun _ => ?_) (fun _ => ?_) <;> try simp -dsimp -implicitDefEqProofs only [go_sem, ↓reduceIte, Nat.reduceEqDiff, Nat.reduceLT, Nat.reduceAdd, Nat.reduceMul, Nat.reduceLeDiff, Nat.le_refl, Int.natCast_zero, Int.toNat_natCast, Int.reduceToNat, *])
        | (with_reducible refine And.intro ?_ ?_)
        | (refine Later.draw mixed rfl ?_; try simp -dsimp -implicitDefEqProofs only [go_sem, ↓reduceIte, Nat.reduceEqDiff, Nat.reduceLT, Nat.reduceAdd, Nat.reduceMul, Nat.reduceLeDiff, Nat.le_refl, Int.natCast_zero, Int.toNat_natCast, Int.reduceToNat, gi, li, ga, hml])
      all_goals first
        | omega | (refine ⟨?_, ?_⟩ <;> omega) | (simp; done) | (simp; omega)
        | rfl
        | (rename_i hx; rw [hf (by simpa using of_decide_eq_true hx)]; done)
        | (simp_all; done)
        | (simp_all; omega)
        | trace_state
    · have hml : T.length = (heldRows r p).length := by rw [hh, List.length_map]
      rw [List.take_length, ← hh, hml]
      clear hget hh hb hg hfar
      simp -dsimp -implicitDefEqProofs only [pick_nil, pick_cons, look_nil, look_cons, dropB_nil, dropB_cons, inD_nil, inD_cons, inE_nil, inE_cons, or_t_l, or_f_l, Nat.reduceBEq, Nat.reduceDiv, Nat.reduceAdd, beq_self_eq_true, Bool.false_eq_true, Bool.or_false, ↓reduceIte, Nat.reduceEqDiff, List.cons_append, List.nil_append]
      simp -dsimp -implicitDefEqProofs only [go_sem, ↓reduceIte, Nat.reduceEqDiff, Nat.reduceLT, Nat.reduceAdd, Nat.reduceMul, Nat.reduceLeDiff, Nat.le_refl, Int.natCast_zero, Int.toNat_natCast, Int.reduceToNat, nlt_len]
      repeat' first
        | (with_reducible refine And.intro ?_ ?_)
        | (refine sCallT_one (c_l18Different (heldRows r p) (by omega) hnn) ?_; try simp -dsimp -implicitDefEqProofs only [go_sem, ↓reduceIte, Nat.reduceEqDiff, Nat.reduceLT, Nat.reduceAdd, Nat.reduceMul, Nat.reduceLeDiff, Nat.le_refl, Int.natCast_zero, Int.toNat_natCast, Int.reduceToNat, *])
        | (refine sCallT_one (c_sOpenFor t (rowsL (heldRows r p)) h3 h4 (by omega)) ?_; try simp -dsimp -implicitDefEqProofs only [go_sem, ↓reduceIte, Nat.reduceEqDiff, Nat.reduceLT, Nat.reduceAdd, Nat.reduceMul, Nat.reduceLeDiff, Nat.le_refl, Int.natCast_zero, Int.toNat_natCast, Int.reduceToNat, *])
      all_goals first
        | omega | (refine ⟨?_, ?_⟩ <;> omega) | (simp; done) | (simp; omega)
        | rfl
        | (simp; done)
        | (simp_all; done)
        | trace_state
  · have hF : personDoors r t p = ([], if isTb t && isReg r then 2 else 1) := by
      unfold personDoors
      cases hb : isTb t <;> cases hg : isReg r <;> cases hi : isIn p 0 (r.roles.length - 1) <;> simp_all
    rw [hF]
    clear hF
    simp -dsimp -implicitDefEqProofs only [go_sem, ↓reduceIte, Nat.reduceEqDiff, Nat.reduceLT, Nat.reduceAdd, Nat.reduceMul, Nat.reduceLeDiff, Nat.le_refl, Int.natCast_zero, Int.toNat_natCast, Int.reduceToNat]
    repeat' first
      | (refine Br.intro (fun _ => ?_) (fun _ => ?_) <;> try simp -dsimp -implicitDefEqProofs only [go_sem, ↓reduceIte, Nat.reduceEqDiff, Nat.reduceLT, Nat.reduceAdd, Nat.reduceMul, Nat.reduceLeDiff, Nat.le_refl, Int.natCast_zero, Int.toNat_natCast, Int.reduceToNat, *])
      | (with_reducible refine And.intro ?_ ?_)
      | (refine sCallT_one (c_sIsRegister r) ?_; try simp -dsimp -implicitDefEqProofs only [go_sem, ↓reduceIte, Nat.reduceEqDiff, Nat.reduceLT, Nat.reduceAdd, Nat.reduceMul, Nat.reduceLeDiff, Nat.le_refl, Int.natCast_zero, Int.toNat_natCast, Int.reduceToNat, *])
      | (refine sCallX_one (c_sIsRegister r) ?_; try simp -dsimp -implicitDefEqProofs only [go_sem, ↓reduceIte, Nat.reduceEqDiff, Nat.reduceLT, Nat.reduceAdd, Nat.reduceMul, Nat.reduceLeDiff, Nat.le_refl, Int.natCast_zero, Int.toNat_natCast, Int.reduceToNat, *])
      | (refine sCallT_one (c_sIsTable t h3 h4) ?_; try simp -dsimp -implicitDefEqProofs only [go_sem, ↓reduceIte, Nat.reduceEqDiff, Nat.reduceLT, Nat.reduceAdd, Nat.reduceMul, Nat.reduceLeDiff, Nat.le_refl, Int.natCast_zero, Int.toNat_natCast, Int.reduceToNat, *])
      | (refine sCallX_one (c_sIsTable t h3 h4) ?_; try simp -dsimp -implicitDefEqProofs only [go_sem, ↓reduceIte, Nat.reduceEqDiff, Nat.reduceLT, Nat.reduceAdd, Nat.reduceMul, Nat.reduceLeDiff, Nat.le_refl, Int.natCast_zero, Int.toNat_natCast, Int.reduceToNat, *])
      | (refine sCallT_one (c_l30Person r p h2) ?_; try simp -dsimp -implicitDefEqProofs only [go_sem, ↓reduceIte, Nat.reduceEqDiff, Nat.reduceLT, Nat.reduceAdd, Nat.reduceMul, Nat.reduceLeDiff, Nat.le_refl, Int.natCast_zero, Int.toNat_natCast, Int.reduceToNat, *])
      | (refine Later.draw mixed rfl ?_; try simp -dsimp -implicitDefEqProofs only [go_sem, ↓reduceIte, Nat.reduceEqDiff, Nat.reduceLT, Nat.reduceAdd, Nat.reduceMul, Nat.reduceLeDiff, Nat.le_refl, Int.natCast_zero, Int.toNat_natCast, Int.reduceToNat, *])
    all_goals first
      | omega
      | (exact rfl)
      | (simp_all; done)
      | (exfalso; simp_all; done)
      | trace_state
end Go.Vc


