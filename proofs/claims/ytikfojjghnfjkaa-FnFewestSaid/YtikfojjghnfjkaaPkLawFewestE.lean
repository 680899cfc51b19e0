import Derived.Test.YtikfojjghnfjkaaPkLawFewestD
/-
  Draws of makers and keys.
-/
set_option linter.unusedVariables false
set_option linter.unusedSimpArgs false
set_option linter.unnecessarySimpa false
namespace Go.Vc
open Go.Proofs
set_option maxRecDepth 100000
set_option maxHeartbeats 4000000
def mkV (bs : List UInt8) (s : Src) : MkM × Src :=
  let a := nx bs 3 s
  let b := nx bs 3 a.2
  let c := nx bs (2 + b.1 - 1) b.2
  let d := nx bs (2 + a.1) c.2
  let e := nx bs 2 d.2
  (⟨2 + a.1, 2 + b.1, 1 + c.1, 1 + d.1, 1 + e.1⟩, e.2)
theorem mkV_ok (bs : List UInt8) {s : Src} (h : SrcOk s) : SrcOk (mkV bs s).2 ∧ isMk (mkV bs s).1 = true ∧ (mkV bs s).1.chambers ≤ 4 ∧ (mkV bs s).1.depths ≤ 4 := by
  have h1 := nx_ok bs 3 h
  have h2 := nx_ok bs 3 h1.2.2.2
  have h3 := nx_ok bs (2 + (nx bs 3 (nx bs 3 s).2).1 - 1) h2.2.2.2
  have h4 := nx_ok bs (2 + (nx bs 3 s).1) h3.2.2.2
  have h5 := nx_ok bs 2 h4.2.2.2
  dsimp only [mkV]
  generalize nx bs 3 s = a at *
  generalize nx bs 3 a.2 = b at *
  generalize nx bs (2 + b.1 - 1) b.2 = c at *
  generalize nx bs (2 + a.1) c.2 = d at *
  generalize nx bs 2 d.2 = e at *
  refine ⟨h5.2.2.2, ?_, by have := h1.2.2.1 (by omega); omega, by have := h2.2.2.1 (by omega); omega⟩
  have a1 := h1.2.2.1 (by omega)
  have b1 := h2.2.2.1 (by omega)
  have d1 := h4.2.2.1 (by omega)
  have e1 := h5.2.2.1 (by omega)
  have c1 : c.1 ≤ b.1 := by
    by_cases hb : b.1 = 0
    · have := h3.2.1 (by omega); omega
    · have := h3.2.2.1 (by omega); omega
  simp only [isMk, isIn, Bool.and_eq_true, decide_eq_true_eq]
  split <;> omega
theorem c_l02Valid (v : Nat) (bs : List UInt8) (s : Src) (h : SrcOk s) (hl : bs.length ≤ 4096) :
    FnM Try.prog 145 [srcB v bs s] [.ptr 1000000000 v 0 0] (fun x io => x = eMk (mkV bs s).1 ∧ io = [srcB v bs (mkV bs s).2]) := by
  refine FnM.of_vcN 34 [.cell 2 43] Try.func145 rfl rfl rfl rfl rfl (of_decide_eq_true rfl) ?_
  have h1 := nx_ok bs 3 h
  have h2 := nx_ok bs 3 h1.2.2.2
  have h3 := nx_ok bs (2 + (nx bs 3 (nx bs 3 s).2).1 - 1) h2.2.2.2
  have h4 := nx_ok bs (2 + (nx bs 3 s).1) h3.2.2.2
  have h5 := nx_ok bs 2 h4.2.2.2
  have q1 := fun v => c_l01Next v bs 3 s h hl
  have q2 := fun v => c_l01Next v bs 3 _ h1.2.2.2 hl
  have q3 := fun v => c_l01Next v bs (2 + (nx bs 3 (nx bs 3 s).2).1 - 1) _ h2.2.2.2 hl
  have q4 := fun v => c_l01Next v bs (2 + (nx bs 3 s).1) _ h3.2.2.2 hl
  have q5 := fun v => c_l01Next v bs 2 _ h4.2.2.2 hl
  dsimp only [mkV]
  generalize nx bs 3 s = a at *
  generalize nx bs 3 a.2 = b at *
  generalize nx bs (2 + b.1 - 1) b.2 = c at *
  generalize nx bs (2 + a.1) c.2 = d at *
  generalize nx bs 2 d.2 = e at *
  have a1 := h1.2.2.1 (by omega)
  have b1 := h2.2.2.1 (by omega)
  have d1 := h4.2.2.1 (by omega)
  have e1 := h5.2.2.1 (by omega)
  have a0 := h1.1
  have b0 := h2.1
  have c0 := h3.1
  have d0 := h4.1
  have e0 := h5.1
  have c1 : c.1 ≤ b.1 := by
    by_cases hb : b.1 = 0
    · have := h3.2.1 (by omega); omega
    · have := h3.2.2.1 (by omega); omega
  have m1 : (if 2 + a.1 < 2 then 2 + a.1 else 2) = (2 : Int) := if_neg (by omega)
  have m2 : (if 2 + b.1 < 2 then 2 + b.1 else 2) = (2 : Int) := if_neg (by omega)
  clear h1 h2 h3 h4 h5
  simp -dsimp -implicitDefEqProofs only [go_sem, ↓reduceIte, Nat.reduceEqDiff, Nat.reduceLT, Nat.reduceAdd, Nat.reduceMul, Nat.reduceLeDiff, Nat.le_refl, Int.natCast_zero, Int.toNat_natCast, Int.reduceToNat]
  (refine sCallT_io [1000000000] ?_; simp -dsimp -implicitDefEqProofs only [go_sem, ↓reduceIte, Nat.reduceEqDiff, Nat.reduceLT, Nat.reduceAdd, Nat.reduceMul, Nat.reduceLeDiff, Nat.le_refl, Int.natCast_zero, Int.toNat_natCast, Int.reduceToNat]; refine sCallM_one (q1 _) ?_; simp -dsimp -implicitDefEqProofs only [go_sem, ↓reduceIte, Nat.reduceEqDiff, Nat.reduceLT, Nat.reduceAdd, Nat.reduceMul, Nat.reduceLeDiff, Nat.le_refl, Int.natCast_zero, Int.toNat_natCast, Int.reduceToNat])
  ((repeat' (with_reducible refine And.intro ?_ ?_)); all_goals try (first | omega | (refine ⟨?_, ?_⟩ <;> omega) | (exact rfl)))
  (refine sCallT_io [1000000000] ?_; simp -dsimp -implicitDefEqProofs only [go_sem, ↓reduceIte, Nat.reduceEqDiff, Nat.reduceLT, Nat.reduceAdd, Nat.reduceMul, Nat.reduceLeDiff, Nat.le_refl, Int.natCast_zero, Int.toNat_natCast, Int.reduceToNat]; refine sCallM_one (q2 _) ?_; simp -dsimp -implicitDefEqProofs only [go_sem, ↓reduceIte, Nat.reduceEqDiff, Nat.reduceLT, Nat.reduceAdd, Nat.reduceMul, Nat.reduceLeDiff, Nat.le_refl, Int.natCast_zero, Int.toNat_natCast, Int.reduceToNat])
  ((repeat' (with_reducible refine And.intro ?_ ?_)); all_goals try (first | omega | (refine ⟨?_, ?_⟩ <;> omega) | (exact rfl)))
  (refine sCallT_io [1000000000] ?_; simp -dsimp -implicitDefEqProofs only [go_sem, ↓reduceIte, Nat.reduceEqDiff, Nat.reduceLT, Nat.reduceAdd, Nat.reduceMul, Nat.reduceLeDiff, Nat.le_refl, Int.natCast_zero, Int.toNat_natCast, Int.reduceToNat]; refine sCallM_one (q3 _) ?_; simp -dsimp -implicitDefEqProofs only [go_sem, ↓reduceIte, Nat.reduceEqDiff, Nat.reduceLT, Nat.reduceAdd, Nat.reduceMul, Nat.reduceLeDiff, Nat.le_refl, Int.natCast_zero, Int.toNat_natCast, Int.reduceToNat])
  ((repeat' (with_reducible refine And.intro ?_ ?_)); all_goals try (first | omega | (refine ⟨?_, ?_⟩ <;> omega) | (exact rfl)))
  (refine sCallT_io [1000000000] ?_; simp -dsimp -implicitDefEqProofs only [go_sem, ↓reduceIte, Nat.reduceEqDiff, Nat.reduceLT, Nat.reduceAdd, Nat.reduceMul, Nat.reduceLeDiff, Nat.le_refl, Int.natCast_zero, Int.toNat_natCast, Int.reduceToNat]; refine sCallM_one (q4 _) ?_; simp -dsimp -implicitDefEqProofs only [go_sem, ↓reduceIte, Nat.reduceEqDiff, Nat.reduceLT, Nat.reduceAdd, Nat.reduceMul, Nat.reduceLeDiff, Nat.le_refl, Int.natCast_zero, Int.toNat_natCast, Int.reduceToNat])
  ((repeat' (with_reducible refine And.intro ?_ ?_)); all_goals try (first | omega | (refine ⟨?_, ?_⟩ <;> omega) | (exact rfl)))
  simp only [m1, m2]
  (refine sCallT_io [1000000000] ?_; simp -dsimp -implicitDefEqProofs only [go_sem, ↓reduceIte, Nat.reduceEqDiff, Nat.reduceLT, Nat.reduceAdd, Nat.reduceMul, Nat.reduceLeDiff, Nat.le_refl, Int.natCast_zero, Int.toNat_natCast, Int.reduceToNat]; refine sCallM_one (q5 _) ?_; simp -dsimp -implicitDefEqProofs only [go_sem, ↓reduceIte, Nat.reduceEqDiff, Nat.reduceLT, Nat.reduceAdd, Nat.reduceMul, Nat.reduceLeDiff, Nat.le_refl, Int.natCast_zero, Int.toNat_natCast, Int.reduceToNat])
  ((repeat' (with_reducible refine And.intro ?_ ?_)); all_goals try (first | omega | (refine ⟨?_, ?_⟩ <;> omega) | (exact rfl)))
  all_goals trace_state
def mkD (bs : List UInt8) (s : Src) : MkM × Src :=
  let v := mkV bs s
  let m := v.1
  let n := nx bs 30 v.2
  if n.1 = 0 then (⟨(pk bs [1, 6, 7] n.2).1, m.depths, m.step, m.same, m.least⟩, (pk bs [1, 6, 7] n.2).2)
  else if n.1 = 1 then (⟨m.chambers, (pk bs [1, 8, 9] n.2).1, m.step, m.same, m.least⟩, (pk bs [1, 8, 9] n.2).2)
  else if n.1 = 2 then (⟨m.chambers, m.depths, (pk bs [0, m.depths - 1, m.depths] n.2).1, m.same, m.least⟩, (pk bs [0, m.depths - 1, m.depths] n.2).2)
  else if n.1 = 3 then (⟨m.chambers, m.depths, m.step, (pk bs [0, m.chambers, m.chambers + 1] n.2).1, m.least⟩, (pk bs [0, m.chambers, m.chambers + 1] n.2).2)
  else if n.1 = 4 then (⟨m.chambers, m.depths, m.step, m.same, (pk bs [0, (if m.depths < m.chambers then m.depths else m.chambers), (if m.depths < m.chambers then m.depths else m.chambers) + 1] n.2).1⟩, (pk bs [0, (if m.depths < m.chambers then m.depths else m.chambers), (if m.depths < m.chambers then m.depths else m.chambers) + 1] n.2).2)
  else if n.1 = 5 then (⟨6, 4 + (nx bs 2 n.2).1, 2 + (nx bs 2 (nx bs 2 n.2).2).1, 2, 3⟩, (nx bs 2 (nx bs 2 n.2).2).2)
  else (m, n.2)
theorem mkD_ok (bs : List UInt8) {s : Src} (h : SrcOk s) : SrcOk (mkD bs s).2 := by
  have hv := (mkV_ok bs h).1
  have hn := (nx_ok bs 30 hv).2.2.2
  dsimp only [mkD]
  generalize mkV bs s = v at *
  generalize nx bs 30 v.2 = n at *
  have h2 := (nx_ok bs 2 hn).2.2.2
  have h3 := (nx_ok bs 2 h2).2.2.2
  split
  · exact pk_ok bs _ hn
  split
  · exact pk_ok bs _ hn
  split
  · exact pk_ok bs _ hn
  split
  · exact pk_ok bs _ hn
  split
  · exact pk_ok bs _ hn
  split
  · exact h3
  · exact hn
theorem c_l02Draw (v : Nat) (bs : List UInt8) (s : Src) (h : SrcOk s) (hl : bs.length ≤ 4096) :
    FnM Try.prog 123 [srcB v bs s] [.ptr 1000000000 v 0 0] (fun x io => x = eMk (mkD bs s).1 ∧ io = [srcB v bs (mkD bs s).2]) := by
  refine FnM.of_vcN 69 [.cell 2 43] Try.func123 rfl rfl rfl rfl rfl (of_decide_eq_true rfl) ?_
  obtain ⟨hv, hm, hc4, hd4⟩ := mkV_ok bs h
  have hnum := isMk_num hm
  have hn := nx_ok bs 30 hv
  have q1 := fun v => c_l02Valid v bs s h hl
  have q2 := fun v => c_l01Next v bs 30 _ hv hl
  dsimp only [mkD]
  generalize mkV bs s = p at *
  obtain ⟨m, s1⟩ := p
  dsimp only at *
  generalize nx bs 30 s1 = n at *
  obtain ⟨n0, n1, n2, n3⟩ := hn
  have n2 := n2 (by omega)
  simp -dsimp -implicitDefEqProofs only [go_sem, ↓reduceIte, Nat.reduceEqDiff, Nat.reduceLT, Nat.reduceAdd, Nat.reduceMul, Nat.reduceLeDiff, Nat.le_refl, Int.natCast_zero, Int.toNat_natCast, Int.reduceToNat]
  (refine sCallT_io [1000000000] ?_; simp -dsimp -implicitDefEqProofs only [go_sem, ↓reduceIte, Nat.reduceEqDiff, Nat.reduceLT, Nat.reduceAdd, Nat.reduceMul, Nat.reduceLeDiff, Nat.le_refl, Int.natCast_zero, Int.toNat_natCast, Int.reduceToNat]; refine sCallM_one (q1 _) ?_; simp -dsimp -implicitDefEqProofs only [go_sem, ↓reduceIte, Nat.reduceEqDiff, Nat.reduceLT, Nat.reduceAdd, Nat.reduceMul, Nat.reduceLeDiff, Nat.le_refl, Int.natCast_zero, Int.toNat_natCast, Int.reduceToNat])
  (refine sCallT_io [1000000000] ?_; simp -dsimp -implicitDefEqProofs only [go_sem, ↓reduceIte, Nat.reduceEqDiff, Nat.reduceLT, Nat.reduceAdd, Nat.reduceMul, Nat.reduceLeDiff, Nat.le_refl, Int.natCast_zero, Int.toNat_natCast, Int.reduceToNat]; refine sCallM_one (q2 _) ?_; simp -dsimp -implicitDefEqProofs only [go_sem, ↓reduceIte, Nat.reduceEqDiff, Nat.reduceLT, Nat.reduceAdd, Nat.reduceMul, Nat.reduceLeDiff, Nat.le_refl, Int.natCast_zero, Int.toNat_natCast, Int.reduceToNat])
  rcases b0 : (n.1 == 0) with _ | _
  rotate_left
  · have e0 : n.1 = 0 := beq_iff_eq.1 b0
    rw [if_pos e0]
    have qp := fun v v2 => c_l01Pick v v2 true bs [1, 6, 7] _ n.2 rfl (by simp) (by simp) n3 hl
    generalize pk bs [1, 6, 7] n.2 = pp at *
    clear e0
    simp -dsimp -implicitDefEqProofs only [go_sem, ↓reduceIte, Nat.reduceEqDiff, Nat.reduceLT, Nat.reduceAdd, Nat.reduceMul, Nat.reduceLeDiff, Nat.le_refl, Int.natCast_zero, Int.toNat_natCast, Int.reduceToNat, b0]
    ((repeat' (with_reducible refine And.intro ?_ ?_)); all_goals try (first | omega | (refine ⟨?_, ?_⟩ <;> omega) | (exact rfl)))
    (refine sCallT_io [1000000000, 11] ?_; simp -dsimp -implicitDefEqProofs only [go_sem, ↓reduceIte, Nat.reduceEqDiff, Nat.reduceLT, Nat.reduceAdd, Nat.reduceMul, Nat.reduceLeDiff, Nat.le_refl, Int.natCast_zero, Int.toNat_natCast, Int.reduceToNat]; refine sCallM_one (qp _ _) ?_; simp -dsimp -implicitDefEqProofs only [go_sem, ↓reduceIte, Nat.reduceEqDiff, Nat.reduceLT, Nat.reduceAdd, Nat.reduceMul, Nat.reduceLeDiff, Nat.le_refl, Int.natCast_zero, Int.toNat_natCast, Int.reduceToNat])
    ((repeat' (with_reducible refine And.intro ?_ ?_)); all_goals try (first | omega | (refine ⟨?_, ?_⟩ <;> omega) | (exact rfl)))
    all_goals trace_state
  rw [if_neg (beq_eq_false_iff_ne.1 b0)]
  rcases b1 : (n.1 == 1) with _ | _
  rotate_left
  · have e1 : n.1 = 1 := beq_iff_eq.1 b1
    rw [if_pos e1]
    have qp := fun v v2 => c_l01Pick v v2 true bs [1, 8, 9] _ n.2 rfl (by simp) (by simp) n3 hl
    generalize pk bs [1, 8, 9] n.2 = pp at *
    clear e1
    simp -dsimp -implicitDefEqProofs only [go_sem, ↓reduceIte, Nat.reduceEqDiff, Nat.reduceLT, Nat.reduceAdd, Nat.reduceMul, Nat.reduceLeDiff, Nat.le_refl, Int.natCast_zero, Int.toNat_natCast, Int.reduceToNat, b0, b1]
    ((repeat' (with_reducible refine And.intro ?_ ?_)); all_goals try (first | omega | (refine ⟨?_, ?_⟩ <;> omega) | (exact rfl)))
    (refine sCallT_io [1000000000, 17] ?_; simp -dsimp -implicitDefEqProofs only [go_sem, ↓reduceIte, Nat.reduceEqDiff, Nat.reduceLT, Nat.reduceAdd, Nat.reduceMul, Nat.reduceLeDiff, Nat.le_refl, Int.natCast_zero, Int.toNat_natCast, Int.reduceToNat]; refine sCallM_one (qp _ _) ?_; simp -dsimp -implicitDefEqProofs only [go_sem, ↓reduceIte, Nat.reduceEqDiff, Nat.reduceLT, Nat.reduceAdd, Nat.reduceMul, Nat.reduceLeDiff, Nat.le_refl, Int.natCast_zero, Int.toNat_natCast, Int.reduceToNat])
    ((repeat' (with_reducible refine And.intro ?_ ?_)); all_goals try (first | omega | (refine ⟨?_, ?_⟩ <;> omega) | (exact rfl)))
    all_goals trace_state
  rw [if_neg (beq_eq_false_iff_ne.1 b1)]
  rcases b2 : (n.1 == 2) with _ | _
  rotate_left
  · have e2 : n.1 = 2 := beq_iff_eq.1 b2
    rw [if_pos e2]
    have qp := fun v v2 => c_l01Pick v v2 true bs [0, m.depths - 1, m.depths] _ n.2 rfl (by simp) (by simp) n3 hl
    generalize pk bs [0, m.depths - 1, m.depths] n.2 = pp at *
    clear e2
    simp -dsimp -implicitDefEqProofs only [go_sem, ↓reduceIte, Nat.reduceEqDiff, Nat.reduceLT, Nat.reduceAdd, Nat.reduceMul, Nat.reduceLeDiff, Nat.le_refl, Int.natCast_zero, Int.toNat_natCast, Int.reduceToNat, b0, b1, b2]
    ((repeat' (with_reducible refine And.intro ?_ ?_)); all_goals try (first | omega | (refine ⟨?_, ?_⟩ <;> omega) | (exact rfl)))
    (refine sCallT_io [1000000000, 28] ?_; simp -dsimp -implicitDefEqProofs only [go_sem, ↓reduceIte, Nat.reduceEqDiff, Nat.reduceLT, Nat.reduceAdd, Nat.reduceMul, Nat.reduceLeDiff, Nat.le_refl, Int.natCast_zero, Int.toNat_natCast, Int.reduceToNat]; refine sCallM_one (qp _ _) ?_; simp -dsimp -implicitDefEqProofs only [go_sem, ↓reduceIte, Nat.reduceEqDiff, Nat.reduceLT, Nat.reduceAdd, Nat.reduceMul, Nat.reduceLeDiff, Nat.le_refl, Int.natCast_zero, Int.toNat_natCast, Int.reduceToNat])
    ((repeat' (with_reducible refine And.intro ?_ ?_)); all_goals try (first | omega | (refine ⟨?_, ?_⟩ <;> omega) | (exact rfl)))
    all_goals trace_state
  rw [if_neg (beq_eq_false_iff_ne.1 b2)]
  rcases b3 : (n.1 == 3) with _ | _
  rotate_left
  · have e3 : n.1 = 3 := beq_iff_eq.1 b3
    rw [if_pos e3]
    have qp := fun v v2 => c_l01Pick v v2 true bs [0, m.chambers, m.chambers + 1] _ n.2 rfl (by simp) (by simp) n3 hl
    generalize pk bs [0, m.chambers, m.chambers + 1] n.2 = pp at *
    clear e3
    simp -dsimp -implicitDefEqProofs only [go_sem, ↓reduceIte, Nat.reduceEqDiff, Nat.reduceLT, Nat.reduceAdd, Nat.reduceMul, Nat.reduceLeDiff, Nat.le_refl, Int.natCast_zero, Int.toNat_natCast, Int.reduceToNat, b0, b1, b2, b3]
    ((repeat' (with_reducible refine And.intro ?_ ?_)); all_goals try (first | omega | (refine ⟨?_, ?_⟩ <;> omega) | (exact rfl)))
    (refine sCallT_io [1000000000, 39] ?_; simp -dsimp -implicitDefEqProofs only [go_sem, ↓reduceIte, Nat.reduceEqDiff, Nat.reduceLT, Nat.reduceAdd, Nat.reduceMul, Nat.reduceLeDiff, Nat.le_refl, Int.natCast_zero, Int.toNat_natCast, Int.reduceToNat]; refine sCallM_one (qp _ _) ?_; simp -dsimp -implicitDefEqProofs only [go_sem, ↓reduceIte, Nat.reduceEqDiff, Nat.reduceLT, Nat.reduceAdd, Nat.reduceMul, Nat.reduceLeDiff, Nat.le_refl, Int.natCast_zero, Int.toNat_natCast, Int.reduceToNat])
    ((repeat' (with_reducible refine And.intro ?_ ?_)); all_goals try (first | omega | (refine ⟨?_, ?_⟩ <;> omega) | (exact rfl)))
    all_goals trace_state
  rw [if_neg (beq_eq_false_iff_ne.1 b3)]
  rcases b4 : (n.1 == 4) with _ | _
  rotate_left
  · have e4 : n.1 = 4 := beq_iff_eq.1 b4
    rw [if_pos e4]
    have qp := fun v v2 => c_l01Pick v v2 true bs [0, (if m.depths < m.chambers then m.depths else m.chambers), (if m.depths < m.chambers then m.depths else m.chambers) + 1] _ n.2 rfl (by simp) (by simp) n3 hl
    generalize pk bs [0, (if m.depths < m.chambers then m.depths else m.chambers), (if m.depths < m.chambers then m.depths else m.chambers) + 1] n.2 = pp at *
    clear e4
    simp -dsimp -implicitDefEqProofs only [go_sem, ↓reduceIte, Nat.reduceEqDiff, Nat.reduceLT, Nat.reduceAdd, Nat.reduceMul, Nat.reduceLeDiff, Nat.le_refl, Int.natCast_zero, Int.toNat_natCast, Int.reduceToNat, b0, b1, b2, b3, b4]
    ((repeat' (with_reducible refine And.intro ?_ ?_)); all_goals try (first | omega | (refine ⟨?_, ?_⟩ <;> omega) | (exact rfl)))
    (refine sCallT_io [1000000000, 56] ?_; simp -dsimp -implicitDefEqProofs only [go_sem, ↓reduceIte, Nat.reduceEqDiff, Nat.reduceLT, Nat.reduceAdd, Nat.reduceMul, Nat.reduceLeDiff, Nat.le_refl, Int.natCast_zero, Int.toNat_natCast, Int.reduceToNat]; refine sCallM_one (qp _ _) ?_; simp -dsimp -implicitDefEqProofs only [go_sem, ↓reduceIte, Nat.reduceEqDiff, Nat.reduceLT, Nat.reduceAdd, Nat.reduceMul, Nat.reduceLeDiff, Nat.le_refl, Int.natCast_zero, Int.toNat_natCast, Int.reduceToNat])
    ((repeat' (with_reducible refine And.intro ?_ ?_)); all_goals try (first | omega | (refine ⟨?_, ?_⟩ <;> omega) | (exact rfl)))
    all_goals trace_state
  rw [if_neg (beq_eq_false_iff_ne.1 b4)]
  rcases b5 : (n.1 == 5) with _ | _
  rotate_left
  · have e5 : n.1 = 5 := beq_iff_eq.1 b5
    rw [if_pos e5]
    have x1 := nx_ok bs 2 n3
    have x2 := nx_ok bs 2 x1.2.2.2
    have qa := fun v => c_l01Next v bs 2 _ n3 hl
    have qb := fun v => c_l01Next v bs 2 _ x1.2.2.2 hl
    generalize nx bs 2 n.2 = A at *
    generalize nx bs 2 A.2 = Bq at *
    have x3 := x1.2.2.1 (by omega)
    have x4 := x2.2.2.1 (by omega)
    have x5 := x1.1
    have x6 := x2.1
    clear e5 x1 x2
    simp -dsimp -implicitDefEqProofs only [go_sem, ↓reduceIte, Nat.reduceEqDiff, Nat.reduceLT, Nat.reduceAdd, Nat.reduceMul, Nat.reduceLeDiff, Nat.le_refl, Int.natCast_zero, Int.toNat_natCast, Int.reduceToNat, b0, b1, b2, b3, b4, b5]
    (refine sCallT_io [1000000000] ?_; simp -dsimp -implicitDefEqProofs only [go_sem, ↓reduceIte, Nat.reduceEqDiff, Nat.reduceLT, Nat.reduceAdd, Nat.reduceMul, Nat.reduceLeDiff, Nat.le_refl, Int.natCast_zero, Int.toNat_natCast, Int.reduceToNat]; refine sCallM_one (qa _) ?_; simp -dsimp -implicitDefEqProofs only [go_sem, ↓reduceIte, Nat.reduceEqDiff, Nat.reduceLT, Nat.reduceAdd, Nat.reduceMul, Nat.reduceLeDiff, Nat.le_refl, Int.natCast_zero, Int.toNat_natCast, Int.reduceToNat])
    ((repeat' (with_reducible refine And.intro ?_ ?_)); all_goals try (first | omega | (refine ⟨?_, ?_⟩ <;> omega) | (exact rfl)))
    (refine sCallT_io [1000000000] ?_; simp -dsimp -implicitDefEqProofs only [go_sem, ↓reduceIte, Nat.reduceEqDiff, Nat.reduceLT, Nat.reduceAdd, Nat.reduceMul, Nat.reduceLeDiff, Nat.le_refl, Int.natCast_zero, Int.toNat_natCast, Int.reduceToNat]; refine sCallM_one (qb _) ?_; simp -dsimp -implicitDefEqProofs only [go_sem, ↓reduceIte, Nat.reduceEqDiff, Nat.reduceLT, Nat.reduceAdd, Nat.reduceMul, Nat.reduceLeDiff, Nat.le_refl, Int.natCast_zero, Int.toNat_natCast, Int.reduceToNat])
    ((repeat' (with_reducible refine And.intro ?_ ?_)); all_goals try (first | omega | (refine ⟨?_, ?_⟩ <;> omega) | (exact rfl)))
    all_goals trace_state
  rw [if_neg (beq_eq_false_iff_ne.1 b5)]
  simp -dsimp -implicitDefEqProofs only [go_sem, ↓reduceIte, Nat.reduceEqDiff, Nat.reduceLT, Nat.reduceAdd, Nat.reduceMul, Nat.reduceLeDiff, Nat.le_refl, Int.natCast_zero, Int.toNat_natCast, Int.reduceToNat, b0, b1, b2, b3, b4, b5]
  ((repeat' (with_reducible refine And.intro ?_ ?_)); all_goals try (first | omega | (refine ⟨?_, ?_⟩ <;> omega) | (exact rfl)))
  all_goals trace_state
end Go.Vc


/-
  Draws of keys.
-/
set_option linter.unusedVariables false
set_option linter.unusedSimpArgs false
set_option linter.unnecessarySimpa false
namespace Go.Vc
open Go.Proofs
set_option maxRecDepth 100000
set_option maxHeartbeats 4000000
def cutsTo (bs : List UInt8) (D : Int) (s : Src) : Nat → List Int × Src
  | 0 => ([], s)
  | i + 1 => ((cutsTo bs D s i).1 ++ [(nx bs D (cutsTo bs D s i).2).1], (nx bs D (cutsTo bs D s i).2).2)
theorem cutsTo_ok {bs : List UInt8} {D : Int} {s : Src} (h : SrcOk s) (hD : 2 ≤ D) : ∀ i, SrcOk (cutsTo bs D s i).2 ∧ (cutsTo bs D s i).1.length = i ∧ ∀ x ∈ (cutsTo bs D s i).1, 0 ≤ x ∧ x < D
  | 0 => ⟨h, rfl, fun x hx => by cases hx⟩
  | i + 1 => by
    obtain ⟨h1, h2, h3⟩ := cutsTo_ok h hD i (bs := bs)
    have hn := nx_ok bs D h1
    refine ⟨hn.2.2.2, by simp [cutsTo, h2], fun x hx => ?_⟩
    simp only [cutsTo] at hx
    rcases List.mem_append.1 hx with h | h
    · exact h3 x h
    · simp at h; rw [h]; exact ⟨hn.1, hn.2.2.1 (by omega)⟩
def someK (m : MkM) (c : List Int) : List Int := match nextTo m c c.length with
  | some k => k
  | none => (firstK m m.chambers.toNat []).getD []
theorem someK_ok {m : MkM} {c : List Int} (hm : isMk m = true) (hl : (c.length : Int) = m.chambers) (hc : ∀ x ∈ c, 0 ≤ x ∧ x < m.depths) :
    ((someK m c).length : Int) = m.chambers ∧ okTo m (someK m c) = true ∧ m.least ≤ (kindsTo (someK m c) (someK m c).length : Int) ∧ ∀ x ∈ someK m c, 0 ≤ x ∧ x < m.depths := by
  have hnum := isMk_num hm
  unfold someK
  cases h : nextTo m c c.length with
  | some k =>
    obtain ⟨g1, g2, g3, g4⟩ := nextTo_len hl hc c.length (Nat.le_refl _) h
    exact ⟨by simp only; omega, g2, g3, g4⟩
  | none =>
    obtain ⟨k, hk⟩ := firstK_some hm
    obtain ⟨g1, g2, g3, g4⟩ := firstK_len _ _ _ hk
    simp only [hk, Option.getD_some]
    exact ⟨by simp at g1; omega, g2, g3, g4 fun x hx => by cases hx⟩
theorem c_l02Some (v : Nat) (bs : List UInt8) (s : Src) (m : MkM) (h : SrcOk s) (hm : isMk m = true) (hl : bs.length ≤ 4096) :
    FnMR Try.prog 146 [srcB v bs s] [.ptr 1000000000 v 0 0, eMk m] (fun x io => x = eIs (someK m (cutsTo bs m.depths s m.chambers.toNat).1) ∧ io = [srcB v bs (cutsTo bs m.depths s m.chambers.toNat).2]) := by
  refine FnMR.of_vc 37 [.tmp 4] Try.func146 rfl rfl rfl rfl rfl (of_decide_eq_true rfl) ?_
  have ⟨⟨hch1, hch2⟩, hd1, hd2⟩ := isMk_num hm
  have hct := fun i => cutsTo_ok (bs := bs) (D := m.depths) h hd1 i
  simp -dsimp -implicitDefEqProofs only [go_sem, ↓reduceIte, Nat.reduceEqDiff, Nat.reduceLT, Nat.reduceAdd, Nat.reduceMul, Nat.reduceLeDiff, Nat.le_refl, Int.natCast_zero, Int.toNat_natCast, Int.reduceToNat]
  refine Later.up [0, 3] [20, 21, 22] [9, 1000000000] m.chambers.toNat (fun _ => True) (fun i => [(6, eI i), (5, .ref 9 0 0 (cutsTo bs m.depths s i).1.length)]) (fun i => [(9, .row 0 ⟨1, false⟩ true ((cutsTo bs m.depths s i).1.map eI)), (1000000000, srcB v bs (cutsTo bs m.depths s i).2)]) trivial ?_ rfl (fun i hi _ => ?_) (fun _ => ?_)
  · simp -dsimp -implicitDefEqProofs only [go_sem, ↓reduceIte, Nat.reduceEqDiff, Nat.reduceLT, Nat.reduceAdd, Nat.reduceMul, Nat.reduceLeDiff, Nat.le_refl, Int.natCast_zero, Int.toNat_natCast, Int.reduceToNat]
    try simp [cutsTo]
  · have hlt : decide ((i : Int) < m.chambers) = true := decide_eq_true (by omega)
    obtain ⟨h1, h2, h3⟩ := hct i
    have hn := nx_ok bs m.depths h1
    have q := fun v => c_l01Next v bs m.depths _ h1 hl
    have hsucc : cutsTo bs m.depths s (i + 1) = ((cutsTo bs m.depths s i).1 ++ [(nx bs m.depths (cutsTo bs m.depths s i).2).1], (nx bs m.depths (cutsTo bs m.depths s i).2).2) := rfl
    rw [hsucc]
    clear hsucc hct
    generalize nx bs m.depths (cutsTo bs m.depths s i).2 = a at *
    generalize cutsTo bs m.depths s i = p at *
    have htk : List.take p.1.length (List.map eI p.1) = List.map eI p.1 := List.take_of_length_le (by simp)
    simp -dsimp -implicitDefEqProofs only [pick_nil, pick_cons, look_nil, look_cons, dropB_nil, dropB_cons, inD_nil, inD_cons, inE_nil, inE_cons, or_t_l, or_f_l, Nat.reduceBEq, Nat.reduceDiv, Nat.reduceAdd, beq_self_eq_true, Bool.false_eq_true, Bool.or_false, ↓reduceIte, Nat.reduceEqDiff, List.cons_append, List.nil_append]
    simp -dsimp -implicitDefEqProofs only [go_sem, ↓reduceIte, Nat.reduceEqDiff, Nat.reduceLT, Nat.reduceAdd, Nat.reduceMul, Nat.reduceLeDiff, Nat.le_refl, Int.natCast_zero, Int.toNat_natCast, Int.reduceToNat, hlt]
    (refine sCallT_io [1000000000] ?_; simp -dsimp -implicitDefEqProofs only [go_sem, ↓reduceIte, Nat.reduceEqDiff, Nat.reduceLT, Nat.reduceAdd, Nat.reduceMul, Nat.reduceLeDiff, Nat.le_refl, Int.natCast_zero, Int.toNat_natCast, Int.reduceToNat]; refine sCallM_one (q _) ?_; simp -dsimp -implicitDefEqProofs only [go_sem, ↓reduceIte, Nat.reduceEqDiff, Nat.reduceLT, Nat.reduceAdd, Nat.reduceMul, Nat.reduceLeDiff, Nat.le_refl, Int.natCast_zero, Int.toNat_natCast, Int.reduceToNat])
    exact ⟨by omega, ⟨by omega, by omega⟩, by simp, by simp⟩
  · have hlt : decide (((m.chambers.toNat : Nat) : Int) < m.chambers) = false := decide_eq_false (by omega)
    obtain ⟨h1, h2, h3⟩ := hct m.chambers.toNat
    clear hct
    generalize cutsTo bs m.depths s m.chambers.toNat = p at *
    have hnx := c_l02Next m p.1 hm (by omega) h3
    simp -dsimp -implicitDefEqProofs only [pick_nil, pick_cons, look_nil, look_cons, dropB_nil, dropB_cons, inD_nil, inD_cons, inE_nil, inE_cons, or_t_l, or_f_l, Nat.reduceBEq, Nat.reduceDiv, Nat.reduceAdd, beq_self_eq_true, Bool.false_eq_true, Bool.or_false, ↓reduceIte, Nat.reduceEqDiff, List.cons_append, List.nil_append]
    simp -dsimp -implicitDefEqProofs only [go_sem, ↓reduceIte, Nat.reduceEqDiff, Nat.reduceLT, Nat.reduceAdd, Nat.reduceMul, Nat.reduceLeDiff, Nat.le_refl, Int.natCast_zero, Int.toNat_natCast, Int.reduceToNat, hlt]
    refine sCallT_frz 9 0 ⟨1, false⟩ true (List.map eI p.1) hnx (by decide) ?_ ?_ fun r hr => ?_
    · simp -dsimp -implicitDefEqProofs only [go_sem, ↓reduceIte, Nat.reduceEqDiff, Nat.reduceLT, Nat.reduceAdd, Nat.reduceMul, Nat.reduceLeDiff, Nat.le_refl, Int.natCast_zero, Int.toNat_natCast, Int.reduceToNat]
    · refine frzOk_no ?_ rfl ?_
      · simp -dsimp -implicitDefEqProofs only [go_sem, ↓reduceIte, Nat.reduceEqDiff, Nat.reduceLT, Nat.reduceAdd, Nat.reduceMul, Nat.reduceLeDiff, Nat.le_refl, Int.natCast_zero, Int.toNat_natCast, Int.reduceToNat]
      · have h := frzOk_ref (l := 9) (v := 0) (sh := ⟨1, false⟩) (ys := List.map eI p.1) (xs := []) (r := []) 0 p.1.length (by simp) trivial
        rw [List.drop_zero, List.take_of_length_le (by simp)] at h
        exact h
    · subst hr
      obtain ⟨k0, hk0⟩ := firstK_some hm
      unfold someK
      cases nextTo m p.1 p.1.length with
      | some k =>
        unfold optR
        simp -dsimp -implicitDefEqProofs only [go_sem, ↓reduceIte, Nat.reduceEqDiff, Nat.reduceLT, Nat.reduceAdd, Nat.reduceMul, Nat.reduceLeDiff, Nat.le_refl, Int.natCast_zero, Int.toNat_natCast, Int.reduceToNat]
      | none =>
        rw [hk0]
        unfold optR
        have hf := (c_l02First m hm m.chambers.toNat [] (by simp; omega) (fun x hx => by cases hx)).subs (args' := [eMk m, eNil]) (.cons (.refl _) (.cons (.nil _) .nil))
        unfold firstR at hf
        rw [hk0] at hf
        simp -dsimp -implicitDefEqProofs only [go_sem, ↓reduceIte, Nat.reduceEqDiff, Nat.reduceLT, Nat.reduceAdd, Nat.reduceMul, Nat.reduceLeDiff, Nat.le_refl, Int.natCast_zero, Int.toNat_natCast, Int.reduceToNat]
        refine sCallS_one (r := .tup [eIs k0, eB true]) hf ?_ ?_
        · simp [noLabs, labs, labsL, isClo]
        · simp -dsimp -implicitDefEqProofs only [go_sem, ↓reduceIte, Nat.reduceEqDiff, Nat.reduceLT, Nat.reduceAdd, Nat.reduceMul, Nat.reduceLeDiff, Nat.le_refl, Int.natCast_zero, Int.toNat_natCast, Int.reduceToNat]
          exact rfl
end Go.Vc


/-
  Draws of cuts and of numbers of marks.
-/
set_option linter.unusedVariables false
set_option linter.unusedSimpArgs false
set_option linter.unnecessarySimpa false
namespace Go.Vc
open Go.Proofs
set_option maxRecDepth 100000
set_option maxHeartbeats 4000000
structure MkB (m : MkM) : Prop where
  c : 0 ≤ m.chambers ∧ m.chambers ≤ 7
  d : 0 ≤ m.depths ∧ m.depths ≤ 9
  s : 0 ≤ m.step ∧ m.step ≤ 9
  a : 0 ≤ m.same ∧ m.same ≤ 9
  l : 0 ≤ m.least ∧ m.least ≤ 9
theorem pk3_in {bs : List UInt8} {a b c lo hi : Int} {s : Src} (h : SrcOk s) (ha : lo ≤ a ∧ a ≤ hi) (hb : lo ≤ b ∧ b ≤ hi) (hc : lo ≤ c ∧ c ≤ hi) : lo ≤ (pk bs [a, b, c] s).1 ∧ (pk bs [a, b, c] s).1 ≤ hi := by
  have := pk_mem bs h (xs := [a, b, c]) (by simp)
  simp only [List.mem_cons, List.not_mem_nil, or_false] at this
  rcases this with h | h | h <;> omega
theorem mkD_bnd (bs : List UInt8) {s : Src} (h : SrcOk s) : MkB (mkD bs s).1 := by
  obtain ⟨hv, hm, hc4, hd4⟩ := mkV_ok bs h
  obtain ⟨⟨m1, m2⟩, m3, m4⟩ := isMk_num hm
  have m5 := isMk_same hm
  have hs : 1 ≤ (mkV bs s).1.step ∧ (mkV bs s).1.step ≤ (mkV bs s).1.depths - 1 ∧ 1 ≤ (mkV bs s).1.least ∧ (mkV bs s).1.least ≤ 8 := by
    simp only [isMk, isIn, Bool.and_eq_true, decide_eq_true_eq] at hm
    have := hm.2
    split at this <;> omega
  have hn := (nx_ok bs 30 hv).2.2.2
  dsimp only [mkD]
  generalize mkV bs s = v at *
  generalize nx bs 30 v.2 = n at *
  have h2 := nx_ok bs 2 hn
  have h3 := nx_ok bs 2 h2.2.2.2
  have x1 := h2.2.2.1 (by omega)
  have x2 := h3.2.2.1 (by omega)
  have x3 := h2.1
  have x4 := h3.1
  generalize nx bs 2 (nx bs 2 n.2).2 = z at *
  generalize nx bs 2 n.2 = y at *
  clear h2 h3
  repeat' split
  all_goals (constructor <;> dsimp only <;> first | omega | exact pk3_in hn (by omega) (by omega) (by omega) | trace_state)
/-- cuts that are drawn: those so far, the next one, the source -/
structure CSt where
  cuts : List Int
  at' : Int
  src : Src
def chD (m : MkM) : Int := if m.chambers < 8 then m.chambers else 8
end Go.Vc


/-
  Draws of locks: what is drawn.
-/
set_option linter.unusedVariables false
set_option linter.unusedSimpArgs false
set_option linter.unnecessarySimpa false
namespace Go.Vc
open Go.Proofs
set_option maxRecDepth 100000
/-- the depths of keys in a chamber -/
def hullAt (keys : List (List Int)) (i : Nat) (d : Nat) : Bool := keys.any fun k => k.getD i 0 == (d : Int)
def hullSet (m : MkM) (keys : List (List Int)) (i : Nat) : List Int := flt (hullAt keys i) m.depths.toNat
def hull (m : MkM) (keys : List (List Int)) (n : Nat) : List (List Int) := (List.range n).map (hullSet m keys)
theorem hull_succ (m : MkM) (keys : List (List Int)) (n : Nat) : hull m keys (n + 1) = hull m keys n ++ [hullSet m keys n] := by simp [hull, List.range_succ]
theorem hull_zero (m : MkM) (keys : List (List Int)) : hull m keys 0 = [] := rfl
theorem hull_len (m : MkM) (keys : List (List Int)) (n : Nat) : (hull m keys n).length = n := by simp [hull]
def keyD (bs : List UInt8) (m : MkM) (s : Src) : List Int × Src := (someK m (cutsTo bs m.depths s m.chambers.toNat).1, (cutsTo bs m.depths s m.chambers.toNat).2)
theorem keyD_ok {bs : List UInt8} {m : MkM} {s : Src} (hm : isMk m = true) (h : SrcOk s) : SrcOk (keyD bs m s).2 ∧ ((keyD bs m s).1.length : Int) = m.chambers ∧ ∀ x ∈ (keyD bs m s).1, 0 ≤ x ∧ x < m.depths := by
  have hn := isMk_num hm
  obtain ⟨h1, h2, h3⟩ := cutsTo_ok (bs := bs) h hn.2.1 m.chambers.toNat
  have := someK_ok hm (by rw [h2]; omega) h3
  exact ⟨h1, this.1, this.2.2.2⟩
def keysD (bs : List UInt8) (m : MkM) (s : Src) : Nat → List (List Int) × Src
  | 0 => ([], s)
  | i + 1 => ((keysD bs m s i).1 ++ [(keyD bs m (keysD bs m s i).2).1], (keyD bs m (keysD bs m s i).2).2)
theorem keysD_ok {bs : List UInt8} {m : MkM} {s : Src} (hm : isMk m = true) (h : SrcOk s) : ∀ i, SrcOk (keysD bs m s i).2 ∧ (keysD bs m s i).1.length = i ∧ ∀ k ∈ (keysD bs m s i).1, (k.length : Int) = m.chambers
  | 0 => ⟨h, rfl, fun k hk => by cases hk⟩
  | i + 1 => by
    obtain ⟨h1, h2, h3⟩ := keysD_ok hm h i (bs := bs)
    obtain ⟨g1, g2, g3⟩ := keyD_ok (bs := bs) hm h1
    refine ⟨g1, by simp [keysD, h2], fun k hk => ?_⟩
    simp only [keysD] at hk
    rcases List.mem_append.1 hk with h | h
    · exact h3 k h
    · simp at h; rw [h]; exact g2
/-- the keys of a drawn lock -/
def keysV (bs : List UInt8) (m : MkM) (s : Src) : List (List Int) × Src := keysD bs m (nx bs 3 s).2 (1 + (nx bs 3 s).1).toNat
def lkW (bs : List UInt8) (m : MkM) (l : List (List Int)) (n : Int × Src) : List (List Int) × Src :=
  if n.1 = 0 then (l.set 0 [(pk bs [0, -1, m.depths] n.2).1], (pk bs [0, -1, m.depths] n.2).2)
  else if n.1 = 1 then (l.set 0 [1, 0], n.2)
  else if n.1 = 2 then (l.set 1 [], n.2)
  else if n.1 = 3 then (l.drop 1, n.2)
  else (l, n.2)
def lkVD (bs : List UInt8) (m : MkM) (s : Src) : List (List Int) × Src :=
  lkW bs m (hull m (keysV bs m s).1 m.chambers.toNat) (nx bs 24 (keysV bs m s).2)
def lkD (bs : List UInt8) (s : Src) : MkM × List (List Int) × Src :=
  if isMk (mkD bs s).1 then ((mkD bs s).1, lkVD bs (mkD bs s).1 (mkD bs s).2) else ((mkD bs s).1, [[0], [0]], (mkD bs s).2)
theorem keysV_ok {bs : List UInt8} {m : MkM} {s : Src} (hm : isMk m = true) (h : SrcOk s) : SrcOk (keysV bs m s).2 ∧ (keysV bs m s).1.length ≤ 3 ∧ ∀ k ∈ (keysV bs m s).1, (k.length : Int) = m.chambers := by
  have hn := nx_ok bs 3 h
  obtain ⟨g1, g2, g3⟩ := keysD_ok (bs := bs) hm hn.2.2.2 (1 + (nx bs 3 s).1).toNat
  have := hn.2.2.1 (by omega)
  unfold keysV
  exact ⟨g1, by omega, g3⟩
theorem hullSet_len (m : MkM) (keys : List (List Int)) (i : Nat) : (hullSet m keys i).length ≤ m.depths.toNat := flt_len _ _
theorem lkW_ok {bs : List UInt8} {m : MkM} {l : List (List Int)} {n : Int × Src} (h : SrcOk n.2) (hl : l.length ≤ 6 ∧ ∀ x ∈ l, x.length ≤ 8) : SrcOk (lkW bs m l n).2 ∧ (lkW bs m l n).1.length ≤ 6 ∧ ∀ x ∈ (lkW bs m l n).1, x.length ≤ 8 := by
  obtain ⟨h1, h2⟩ := hl
  have hset : ∀ (i : Nat) (y : List Int), y.length ≤ 8 → ∀ x ∈ l.set i y, x.length ≤ 8 := fun i y hy x hx => by
    rcases List.mem_or_eq_of_mem_set hx with h | h
    · exact h2 x h
    · rw [h]; exact hy
  unfold lkW
  split
  · exact ⟨pk_ok _ _ h, by simpa using h1, hset _ _ (by simp)⟩
  split
  · exact ⟨h, by simpa using h1, hset _ _ (by simp)⟩
  split
  · exact ⟨h, by simpa using h1, hset _ _ (by simp)⟩
  split
  · exact ⟨h, by simp; omega, fun x hx => h2 x (List.mem_of_mem_drop hx)⟩
  · exact ⟨h, h1, h2⟩
theorem lkD_ok {bs : List UInt8} {s : Src} (h : SrcOk s) : SrcOk (lkD bs s).2.2 ∧ (lkD bs s).2.1.length ≤ 6 ∧ ∀ x ∈ (lkD bs s).2.1, x.length ≤ 8 := by
  have h1 := mkD_ok bs h
  unfold lkD
  split
  · rename_i hm
    have hn := isMk_num hm
    obtain ⟨k1, k2, k3⟩ := keysV_ok (bs := bs) hm h1
    refine lkW_ok (nx_ok bs 24 k1).2.2.2 ⟨by rw [hull_len]; omega, fun x hx => ?_⟩
    simp only [hull, List.mem_map] at hx
    obtain ⟨i, _, rfl⟩ := hx
    have := hullSet_len (mkD bs s).1 (keysV bs (mkD bs s).1 (mkD bs s).2).1 i
    omega
  · refine ⟨h1, by simp, fun x hx => ?_⟩
    simp at hx; subst hx; simp
theorem Sub.arr {sh : Sh} {xs ys : List AV} (h : SubL xs ys) (hf : ∀ i (hx : i < xs.length) (hy : i < ys.length), fits sh xs[i] → fits sh ys[i]) : Sub (.arr sh xs) (.arr sh ys) := fun w S v hv => by
  obtain ⟨h1, h2⟩ := h.get
  cases hv with
  | nil sh a =>
    cases h
    exact .nil sh a
  | arr sh xs b off cap cs e fr hS hb hcap hl hff hv =>
    rw [h1]
    exact .arr sh ys b off cap cs e fr hS hb (h1 ▸ hcap) (h1 ▸ hl) (fun i hi => hf i (by omega) hi (hff i (by omega))) fun i hi => h2 i (by omega) hi _ _ _ (hv i (by omega))
theorem Sub.agg {xs ys : List AV} (h : SubL xs ys) (hf : ∀ i (hx : i < xs.length) (hy : i < ys.length), leaf xs[i] → leaf ys[i]) : Sub (.agg xs) (.agg ys) := fun w S v hv => by
  obtain ⟨h1, h2⟩ := h.get
  cases hv with
  | agg xs cs hl hff hv => exact .agg ys cs (by omega) (fun i hi => hf i (by omega) hi (hff i (by omega))) fun i hi => h2 i (by omega) hi _ _ _ (hv i (by omega))
theorem Sub.tup {xs ys : List AV} (h : SubL xs ys) : Sub (.tup xs) (.tup ys) := fun w S v hv => by
  obtain ⟨h1, h2⟩ := h.get
  cases hv with
  | tup xs cs hl hv => exact .tup ys cs (by omega) fun i hi => h2 i (by omega) hi _ _ _ (hv i (by omega))
theorem SubL.refl : ∀ xs : List AV, SubL xs xs
  | [] => .nil
  | x :: r => .cons (Sub.refl x) (SubL.refl r)
theorem SubL.set {x y : AV} (h : Sub y x) : ∀ (xs : List AV) (i : Nat), SubL (xs.set i y) (xs.set i x)
  | [], _ => .nil
  | z :: r, 0 => .cons h (SubL.refl r)
  | z :: r, i + 1 => .cons (Sub.refl z) (SubL.set h r i)
theorem FnMR.sub {P : Program} {f : FuncId} {io : List Blk} {args : List AV} {post post' : AV → List Blk → Prop} (h : FnMR P f io args post) (hp : ∀ r io', post r io' → ∃ r', Sub r r' ∧ post' r' io') : FnMR P f io args post' :=
  ⟨h.1, fun w φ fp S vs h1 h2 => (h.2 w φ fp S vs h1 h2).mono fun _ _ ⟨x, v, io', φ', fp', S', m', g1, g2, g4, g5, g6⟩ => by
    obtain ⟨r', q1, q2⟩ := hp _ _ g2
    exact ⟨r', v, io', φ', fp', S', m', g1, q2, g4, g5, q1 _ _ _ g6⟩⟩
end Go.Vc


/-
  Contract: the draw of a lock.
-/
set_option linter.unusedVariables false
set_option linter.unusedSimpArgs false
set_option linter.unnecessarySimpa false
namespace Go.Vc
open Go.Proofs
set_option maxRecDepth 100000
set_option maxHeartbeats 4000000
theorem lock_sub {m : MkM} {l : List (List Int)} {L : List AV} (h : SubL L (l.map eIs)) : Sub (.tup [eMk m, .agg [.arr ⟨1, false⟩ L]]) (.tup [eMk m, eLk l]) :=
  Sub.tup (.cons (Sub.refl _) (.cons (Sub.agg (.cons (Sub.arr h fun i hx hy _ => by rw [List.getElem_map]; exact ⟨rfl, rfl⟩) .nil) fun i hx hy _ => by
    have : i = 0 := by simpa using hy
    subst this; exact trivial) .nil))
theorem c_l04Draw (v : Nat) (bs : List UInt8) (s : Src) (h : SrcOk s) (hl : bs.length ≤ 4096) :
    FnMR Try.prog 79 [srcB v bs s] [.ptr 1000000000 v 0 0] (fun x io => x = .tup [eMk (lkD bs s).1, eLk (lkD bs s).2.1] ∧ io = [srcB v bs (lkD bs s).2.2]) := by
  refine FnMR.sub (post := fun x io => (∃ L, SubL L ((lkD bs s).2.1.map eIs) ∧ x = .tup [eMk (lkD bs s).1, .agg [.arr ⟨1, false⟩ L]]) ∧ io = [srcB v bs (lkD bs s).2.2]) (FnMR.of_vc 52 [.cell 2 43, .cell 3 45] Try.func79 rfl rfl rfl rfl rfl (of_decide_eq_true rfl) ?_) (by
    rintro _ _ ⟨⟨L, hL, rfl⟩, rfl⟩
    exact ⟨_, lock_sub hL, rfl, rfl⟩)
  have h1 := mkD_ok bs h
  have q1 := fun v => c_l02Draw v bs s h hl
  unfold lkD
  generalize mkD bs s = p at *
  obtain ⟨m, s1⟩ := p
  dsimp only at h1 q1 ⊢
  rcases hm : isMk m with _ | _
  · rw [if_neg (by simp)]
    simp -dsimp -implicitDefEqProofs only [go_sem, ↓reduceIte, Nat.reduceEqDiff, Nat.reduceLT, Nat.reduceAdd, Nat.reduceMul, Nat.reduceLeDiff, Nat.le_refl, Int.natCast_zero, Int.toNat_natCast, Int.reduceToNat]
    (refine sCallT_io [1000000000] ?_; simp -dsimp -implicitDefEqProofs only [go_sem, ↓reduceIte, Nat.reduceEqDiff, Nat.reduceLT, Nat.reduceAdd, Nat.reduceMul, Nat.reduceLeDiff, Nat.le_refl, Int.natCast_zero, Int.toNat_natCast, Int.reduceToNat]; refine sCallM_one (q1 _) ?_; simp -dsimp -implicitDefEqProofs only [go_sem, ↓reduceIte, Nat.reduceEqDiff, Nat.reduceLT, Nat.reduceAdd, Nat.reduceMul, Nat.reduceLeDiff, Nat.le_refl, Int.natCast_zero, Int.toNat_natCast, Int.reduceToNat])
    refine sCallT_one (c_sIsMaker m) ?_
    simp -dsimp -implicitDefEqProofs only [go_sem, ↓reduceIte, Nat.reduceEqDiff, Nat.reduceLT, Nat.reduceAdd, Nat.reduceMul, Nat.reduceLeDiff, Nat.le_refl, Int.natCast_zero, Int.toNat_natCast, Int.reduceToNat, hm]
    ((repeat' (with_reducible refine And.intro ?_ ?_)); all_goals try (first | omega | (refine ⟨?_, ?_⟩ <;> omega) | (exact rfl)))
    all_goals first | exact ⟨_, SubL.refl _, rfl⟩ | trace_state
  have hn := isMk_num hm
  obtain ⟨⟨n1, n2⟩, n3, n4⟩ := hn
  rw [if_pos rfl]
  unfold lkVD keysV
  have hnx := nx_ok bs 3 h1
  have q2 := fun v => c_l01Next v bs 3 _ h1 hl
  have hk := keysD_ok (bs := bs) (m := m) hm hnx.2.2.2
  generalize nx bs 3 s1 = a at *
  obtain ⟨a1, a2, a3, a4⟩ := hnx
  have a3 := a3 (by omega)
  simp -dsimp -implicitDefEqProofs only [go_sem, ↓reduceIte, Nat.reduceEqDiff, Nat.reduceLT, Nat.reduceAdd, Nat.reduceMul, Nat.reduceLeDiff, Nat.le_refl, Int.natCast_zero, Int.toNat_natCast, Int.reduceToNat]
  (refine sCallT_io [1000000000] ?_; simp -dsimp -implicitDefEqProofs only [go_sem, ↓reduceIte, Nat.reduceEqDiff, Nat.reduceLT, Nat.reduceAdd, Nat.reduceMul, Nat.reduceLeDiff, Nat.le_refl, Int.natCast_zero, Int.toNat_natCast, Int.reduceToNat]; refine sCallM_one (q1 _) ?_; simp -dsimp -implicitDefEqProofs only [go_sem, ↓reduceIte, Nat.reduceEqDiff, Nat.reduceLT, Nat.reduceAdd, Nat.reduceMul, Nat.reduceLeDiff, Nat.le_refl, Int.natCast_zero, Int.toNat_natCast, Int.reduceToNat])
  refine sCallT_one (c_sIsMaker m) ?_
  simp -dsimp -implicitDefEqProofs only [go_sem, ↓reduceIte, Nat.reduceEqDiff, Nat.reduceLT, Nat.reduceAdd, Nat.reduceMul, Nat.reduceLeDiff, Nat.le_refl, Int.natCast_zero, Int.toNat_natCast, Int.reduceToNat, hm]
  refine sCallT_inl 200000 24 [.cell 4 45] Try.func125 rfl rfl rfl rfl rfl (by exact of_decide_eq_true rfl) ?_
  simp -dsimp -implicitDefEqProofs only [go_sem, ↓reduceIte, Nat.reduceEqDiff, Nat.reduceLT, Nat.reduceAdd, Nat.reduceMul, Nat.reduceLeDiff, Nat.le_refl, Int.natCast_zero, Int.toNat_natCast, Int.reduceToNat]
  (refine sCallT_io [1000000000] ?_; simp -dsimp -implicitDefEqProofs only [go_sem, ↓reduceIte, Nat.reduceEqDiff, Nat.reduceLT, Nat.reduceAdd, Nat.reduceMul, Nat.reduceLeDiff, Nat.le_refl, Int.natCast_zero, Int.toNat_natCast, Int.reduceToNat]; refine sCallM_one (q2 _) ?_; simp -dsimp -implicitDefEqProofs only [go_sem, ↓reduceIte, Nat.reduceEqDiff, Nat.reduceLT, Nat.reduceAdd, Nat.reduceMul, Nat.reduceLeDiff, Nat.le_refl, Int.natCast_zero, Int.toNat_natCast, Int.reduceToNat])
  ((repeat' (with_reducible refine And.intro ?_ ?_)); all_goals try (first | omega | (refine ⟨?_, ?_⟩ <;> omega) | (exact rfl)))
  refine Later.up [0, 3, 4] [18, 19, 20] [7, 1000000000] (1 + a.1).toNat (fun _ => True) (fun i => [(6, eI (1 + a.1 - (i : Int))), (5, .ref 7 0 0 (keysD bs m a.2 i).1.length)]) (fun i => [(7, .row 0 ⟨1, false⟩ (i == 0) ((keysD bs m a.2 i).1.map eIs)), (1000000000, srcB v bs (keysD bs m a.2 i).2)]) trivial ?_ rfl (fun i hi _ => ?_) (fun _ => ?_)
  · simp -dsimp -implicitDefEqProofs only [go_sem, ↓reduceIte, Nat.reduceEqDiff, Nat.reduceLT, Nat.reduceAdd, Nat.reduceMul, Nat.reduceLeDiff, Nat.le_refl, Int.natCast_zero, Int.toNat_natCast, Int.reduceToNat]
    all_goals (first | (simp [keysD]; done) | trace_state)
  · obtain ⟨hk1, hk2, hk3⟩ := hk i
    have hgt : decide (1 + a.1 - (i : Int) > 0) = true := decide_eq_true (by omega)
    have q := fun v => c_l02Some v bs _ m hk1 hm hl
    have hsucc : keysD bs m a.2 (i + 1) = ((keysD bs m a.2 i).1 ++ [(keyD bs m (keysD bs m a.2 i).2).1], (keyD bs m (keysD bs m a.2 i).2).2) := rfl
    rw [hsucc]
    clear hsucc hk
    unfold keyD
    generalize cutsTo bs m.depths (keysD bs m a.2 i).2 m.chambers.toNat = c at *
    generalize keysD bs m a.2 i = K at *
    generalize someK m c.1 = key at *
    have htk : List.take K.1.length (List.map eIs K.1) = List.map eIs K.1 := List.take_of_length_le (by simp)
    simp -dsimp -implicitDefEqProofs only [pick_nil, pick_cons, look_nil, look_cons, dropB_nil, dropB_cons, inD_nil, inD_cons, inE_nil, inE_cons, or_t_l, or_f_l, Nat.reduceBEq, Nat.reduceDiv, Nat.reduceAdd, beq_self_eq_true, Bool.false_eq_true, Bool.or_false, ↓reduceIte, Nat.reduceEqDiff, List.cons_append, List.nil_append]
    simp -dsimp -implicitDefEqProofs only [go_sem, ↓reduceIte, Nat.reduceEqDiff, Nat.reduceLT, Nat.reduceAdd, Nat.reduceMul, Nat.reduceLeDiff, Nat.le_refl, Int.natCast_zero, Int.toNat_natCast, Int.reduceToNat, hgt]
    refine sCallT_ioR [1000000000] ?_
    simp -dsimp -implicitDefEqProofs only [go_sem, ↓reduceIte, Nat.reduceEqDiff, Nat.reduceLT, Nat.reduceAdd, Nat.reduceMul, Nat.reduceLeDiff, Nat.le_refl, Int.natCast_zero, Int.toNat_natCast, Int.reduceToNat]
    refine sCallMR_any (q _) ?_
    rintro _ _ ⟨rfl, rfl⟩
    simp -dsimp -implicitDefEqProofs only [go_sem, ↓reduceIte, Nat.reduceEqDiff, Nat.reduceLT, Nat.reduceAdd, Nat.reduceMul, Nat.reduceLeDiff, Nat.le_refl, Int.natCast_zero, Int.toNat_natCast, Int.reduceToNat]
    ((repeat' (with_reducible refine And.intro ?_ ?_)); all_goals try (first | omega | (refine ⟨?_, ?_⟩ <;> omega) | (exact rfl)))
    refine .inr ⟨by omega, (by cases i with | zero => exact .inr hk2 | succ i => exact .inl rfl), ?_⟩
    have e0 : (i + 1 == 0) = false := rfl
    have e1 : 1 + a.1 - (i : Int) - 1 = 1 + a.1 - ((i + 1 : Nat) : Int) := by omega
    have e2 : List.map eIs (K.1 ++ [key]) = List.map eIs K.1 ++ [eIs key] := by simp
    rw [e0, e1, e2]
    simp -dsimp -implicitDefEqProofs only [go_sem, ↓reduceIte, Nat.reduceEqDiff, Nat.reduceLT, Nat.reduceAdd, Nat.reduceMul, Nat.reduceLeDiff, Nat.le_refl, Int.natCast_zero, Int.toNat_natCast, Int.reduceToNat]
    exact ⟨by omega, by omega⟩
  · obtain ⟨hk1, hk2, hk3⟩ := hk (1 + a.1).toNat
    have hgt : decide (1 + a.1 - (((1 + a.1).toNat : Nat) : Int) > 0) = false := decide_eq_false (by omega)
    have q3 := fun v => c_l01Next v bs 24 _ hk1 hl
    have h24 := nx_ok bs 24 hk1
    have hne : ((1 + a.1).toNat == 0) = false := by simp; omega
    clear hk
    generalize keysD bs m a.2 (1 + a.1).toNat = K at *
    generalize nx bs 24 K.2 = n at *
    simp -dsimp -implicitDefEqProofs only [pick_nil, pick_cons, look_nil, look_cons, dropB_nil, dropB_cons, inD_nil, inD_cons, inE_nil, inE_cons, or_t_l, or_f_l, Nat.reduceBEq, Nat.reduceDiv, Nat.reduceAdd, beq_self_eq_true, Bool.false_eq_true, Bool.or_false, ↓reduceIte, Nat.reduceEqDiff, List.cons_append, List.nil_append]
    simp -dsimp -implicitDefEqProofs only [go_sem, ↓reduceIte, Nat.reduceEqDiff, Nat.reduceLT, Nat.reduceAdd, Nat.reduceMul, Nat.reduceLeDiff, Nat.le_refl, Int.natCast_zero, Int.toNat_natCast, Int.reduceToNat, hgt]
    rw [hne]
    clear hne
    refine sCallT_inlK 1600000000 300000 54 [.cell 4 45] Try.func147 rfl rfl rfl rfl rfl (by exact of_decide_eq_true rfl) ?_
    simp -dsimp -implicitDefEqProofs only [go_sem, ↓reduceIte, Nat.reduceEqDiff, Nat.reduceLT, Nat.reduceAdd, Nat.reduceMul, Nat.reduceLeDiff, Nat.le_refl, Int.natCast_zero, Int.toNat_natCast, Int.reduceToNat]
    refine Later.up [1, 2, 4] [18, 27, 46, 47, 50, 51] [11] m.chambers.toNat (fun _ => True) (fun i => [(6, eI i), (5, .ref 11 0 0 i)]) (fun i => [(11, .row 0 ⟨1, false⟩ (i == 0) ((hull m K.1 i).map eIs))]) trivial ?_ rfl (fun i hi _ => ?_) (fun _ => ?_)
    · simp -dsimp -implicitDefEqProofs only [go_sem, ↓reduceIte, Nat.reduceEqDiff, Nat.reduceLT, Nat.reduceAdd, Nat.reduceMul, Nat.reduceLeDiff, Nat.le_refl, Int.natCast_zero, Int.toNat_natCast, Int.reduceToNat, hull_zero]
    · have hlt : decide ((i : Int) < m.chambers) = true := decide_eq_true (by omega)
      have hhl := hull_len m K.1 i
      rw [hull_succ]
      unfold hullSet
      generalize hull m K.1 i = H at *
      simp -dsimp -implicitDefEqProofs only [pick_nil, pick_cons, look_nil, look_cons, dropB_nil, dropB_cons, inD_nil, inD_cons, inE_nil, inE_cons, or_t_l, or_f_l, Nat.reduceBEq, Nat.reduceDiv, Nat.reduceAdd, beq_self_eq_true, Bool.false_eq_true, Bool.or_false, ↓reduceIte, Nat.reduceEqDiff, List.cons_append, List.nil_append]
      simp -dsimp -implicitDefEqProofs only [go_sem, ↓reduceIte, Nat.reduceEqDiff, Nat.reduceLT, Nat.reduceAdd, Nat.reduceMul, Nat.reduceLeDiff, Nat.le_refl, Int.natCast_zero, Int.toNat_natCast, Int.reduceToNat, hlt]
      refine Later.up [1, 2, 4, 5, 6] [27, 46, 47] [18] m.depths.toNat (fun _ => True) (fun d => [(8, eI d), (7, .ref 18 0 0 (flt (hullAt K.1 i) d).length)]) (fun d => [(18, .row 0 ⟨1, false⟩ true ((flt (hullAt K.1 i) d).map eI))]) trivial ?_ rfl (fun d hd _ => ?_) (fun _ => ?_)
      · simp -dsimp -implicitDefEqProofs only [go_sem, ↓reduceIte, Nat.reduceEqDiff, Nat.reduceLT, Nat.reduceAdd, Nat.reduceMul, Nat.reduceLeDiff, Nat.le_refl, Int.natCast_zero, Int.toNat_natCast, Int.reduceToNat, flt_zero]
      · have hltd : decide ((d : Int) < m.depths) = true := decide_eq_true (by omega)
        have hfl := flt_len (hullAt K.1 i) d
        rw [flt_succ]
        have hany : hullAt K.1 i d = (K.1.take K.1.length).any fun x => x.getD i 0 == (d : Int) := by rw [List.take_length]; rfl
        rw [hany]
        clear hany
        generalize flt (hullAt K.1 i) d = F at *
        simp -dsimp -implicitDefEqProofs only [pick_nil, pick_cons, look_nil, look_cons, dropB_nil, dropB_cons, inD_nil, inD_cons, inE_nil, inE_cons, or_t_l, or_f_l, Nat.reduceBEq, Nat.reduceDiv, Nat.reduceAdd, beq_self_eq_true, Bool.false_eq_true, Bool.or_false, ↓reduceIte, Nat.reduceEqDiff, List.cons_append, List.nil_append]
        simp -dsimp -implicitDefEqProofs only [go_sem, ↓reduceIte, Nat.reduceEqDiff, Nat.reduceLT, Nat.reduceAdd, Nat.reduceMul, Nat.reduceLeDiff, Nat.le_refl, Int.natCast_zero, Int.toNat_natCast, Int.reduceToNat, hltd]
        refine Later.up [1, 2, 4, 5, 6, 7, 8] [27] [] K.1.length (fun _ => True) (fun k => [(10, eI k), (9, eB ((K.1.take k).any fun x => x.getD i 0 == (d : Int)))]) (fun _ => []) trivial ?_ rfl (fun k hk' _ => ?_) (fun _ => ?_)
        · simp -dsimp -implicitDefEqProofs only [go_sem, ↓reduceIte, Nat.reduceEqDiff, Nat.reduceLT, Nat.reduceAdd, Nat.reduceMul, Nat.reduceLeDiff, Nat.le_refl, Int.natCast_zero, Int.toNat_natCast, Int.reduceToNat]
          exact rfl
        · have hkl : i < K.1[k].length := by have := hk3 _ (List.getElem_mem hk'); omega
          have gk := get_some hk'
          have gi := get_some hkl
          have hgd : K.1[k].getD i 0 = K.1[k][i] := by simp [List.getD_eq_getElem?_getD, hkl]
          rw [any_take _ _ _ hk', hgd]
          have lk := lt_len hk'
          generalize K.1[k] = x at *
          generalize x[i] = z at *
          generalize ((K.1.take k).any fun x => x.getD i 0 == (d : Int)) = b at *
          simp -dsimp -implicitDefEqProofs only [pick_nil, pick_cons, look_nil, look_cons, dropB_nil, dropB_cons, inD_nil, inD_cons, inE_nil, inE_cons, or_t_l, or_f_l, Nat.reduceBEq, Nat.reduceDiv, Nat.reduceAdd, beq_self_eq_true, Bool.false_eq_true, Bool.or_false, ↓reduceIte, Nat.reduceEqDiff, List.cons_append, List.nil_append]
          cases b <;> simp -dsimp -implicitDefEqProofs only [go_sem, ↓reduceIte, Nat.reduceEqDiff, Nat.reduceLT, Nat.reduceAdd, Nat.reduceMul, Nat.reduceLeDiff, Nat.le_refl, Int.natCast_zero, Int.toNat_natCast, Int.reduceToNat, lk, gk, gi]
          · exact ⟨⟨by omega, by omega⟩, ⟨by omega, by omega⟩, ⟨by omega, by omega⟩, rfl⟩
          · exact ⟨⟨by omega, by omega⟩, rfl⟩
        · generalize ((K.1.take K.1.length).any fun x => x.getD i 0 == (d : Int)) = b at *
          simp -dsimp -implicitDefEqProofs only [pick_nil, pick_cons, look_nil, look_cons, dropB_nil, dropB_cons, inD_nil, inD_cons, inE_nil, inE_cons, or_t_l, or_f_l, Nat.reduceBEq, Nat.reduceDiv, Nat.reduceAdd, beq_self_eq_true, Bool.false_eq_true, Bool.or_false, ↓reduceIte, Nat.reduceEqDiff, List.cons_append, List.nil_append]
          cases b <;> simp -dsimp -implicitDefEqProofs only [go_sem, ↓reduceIte, Nat.reduceEqDiff, Nat.reduceLT, Nat.reduceAdd, Nat.reduceMul, Nat.reduceLeDiff, Nat.le_refl, Int.natCast_zero, Int.toNat_natCast, Int.reduceToNat, nlt_len]
          · exact ⟨⟨by omega, by omega⟩, rfl⟩
          · exact ⟨by omega, ⟨by omega, by omega⟩, rfl, by simp⟩
      · have hltd : decide (((m.depths.toNat : Nat) : Int) < m.depths) = false := decide_eq_false (by omega)
        have hfl := flt_len (hullAt K.1 i) m.depths.toNat
        generalize flt (hullAt K.1 i) m.depths.toNat = F at *
        have htk : List.take F.length (List.map eI F) = List.map eI F := List.take_of_length_le (by simp)
        have htk2 : List.take i (List.map eIs H) = List.map eIs H := List.take_of_length_le (by simp; omega)
        have e2 : List.map eIs (H ++ [F]) = List.map eIs H ++ [eIs F] := by simp
        have e0 : (i + 1 == 0) = false := rfl
        simp -dsimp -implicitDefEqProofs only [pick_nil, pick_cons, look_nil, look_cons, dropB_nil, dropB_cons, inD_nil, inD_cons, inE_nil, inE_cons, or_t_l, or_f_l, Nat.reduceBEq, Nat.reduceDiv, Nat.reduceAdd, beq_self_eq_true, Bool.false_eq_true, Bool.or_false, ↓reduceIte, Nat.reduceEqDiff, List.cons_append, List.nil_append]
        simp -dsimp -implicitDefEqProofs only [go_sem, ↓reduceIte, Nat.reduceEqDiff, Nat.reduceLT, Nat.reduceAdd, Nat.reduceMul, Nat.reduceLeDiff, Nat.le_refl, Int.natCast_zero, Int.toNat_natCast, Int.reduceToNat, hltd]
        refine .inr ⟨by omega, by omega, (by cases i with | zero => exact .inr rfl | succ i => exact .inl rfl), ⟨by omega, by omega⟩, rfl, ?_⟩
        rw [e0, e2]
        simp -dsimp -implicitDefEqProofs only [go_sem, ↓reduceIte, Nat.reduceEqDiff, Nat.reduceLT, Nat.reduceAdd, Nat.reduceMul, Nat.reduceLeDiff, Nat.le_refl, Int.natCast_zero, Int.toNat_natCast, Int.reduceToNat, htk, htk2]
    · have hlt : decide (((m.chambers.toNat : Nat) : Int) < m.chambers) = false := decide_eq_false (by omega)
      have hhl := hull_len m K.1 m.chambers.toNat
      generalize hull m K.1 m.chambers.toNat = H at *
      simp -dsimp -implicitDefEqProofs only [pick_nil, pick_cons, look_nil, look_cons, dropB_nil, dropB_cons, inD_nil, inD_cons, inE_nil, inE_cons, or_t_l, or_f_l, Nat.reduceBEq, Nat.reduceDiv, Nat.reduceAdd, beq_self_eq_true, Bool.false_eq_true, Bool.or_false, ↓reduceIte, Nat.reduceEqDiff, List.cons_append, List.nil_append]
      simp -dsimp -implicitDefEqProofs only [go_sem, ↓reduceIte, Nat.reduceEqDiff, Nat.reduceLT, Nat.reduceAdd, Nat.reduceMul, Nat.reduceLeDiff, Nat.le_refl, Int.natCast_zero, Int.toNat_natCast, Int.reduceToNat, hlt]
      have hc0 : (m.chambers.toNat == 0) = false := by simp; omega
      obtain ⟨h24a, h24b, h24c, h24d⟩ := h24
      have h24c := h24c (by omega)
      have hH1 : 0 < H.length := by omega
      have hH2 : 1 < H.length := by omega
      rw [hc0]
      unfold lkW
      clear hc0 h24b
      (refine sCallT_io [1000000000] ?_; simp -dsimp -implicitDefEqProofs only [go_sem, ↓reduceIte, Nat.reduceEqDiff, Nat.reduceLT, Nat.reduceAdd, Nat.reduceMul, Nat.reduceLeDiff, Nat.le_refl, Int.natCast_zero, Int.toNat_natCast, Int.reduceToNat]; refine sCallM_one (q3 _) ?_; simp -dsimp -implicitDefEqProofs only [go_sem, ↓reduceIte, Nat.reduceEqDiff, Nat.reduceLT, Nat.reduceAdd, Nat.reduceMul, Nat.reduceLeDiff, Nat.le_refl, Int.natCast_zero, Int.toNat_natCast, Int.reduceToNat])
      rcases b0 : (n.1 == 0) with _ | _
      rotate_left
      · have e0 : n.1 = 0 := beq_iff_eq.1 b0
        rw [if_pos e0]
        have qp := fun v v2 => c_l01Pick v v2 true bs [0, -1, m.depths] _ n.2 rfl (by simp) (by simp) h24d hl
        generalize pk bs [0, -1, m.depths] n.2 = pp at *
        clear e0
        simp -dsimp -implicitDefEqProofs only [go_sem, ↓reduceIte, Nat.reduceEqDiff, Nat.reduceLT, Nat.reduceAdd, Nat.reduceMul, Nat.reduceLeDiff, Nat.le_refl, Int.natCast_zero, Int.toNat_natCast, Int.reduceToNat, b0]
        refine Later.solo 9 mixed rfl ?_
        simp -dsimp -implicitDefEqProofs only [go_sem, ↓reduceIte, Nat.reduceEqDiff, Nat.reduceLT, Nat.reduceAdd, Nat.reduceMul, Nat.reduceLeDiff, Nat.le_refl, Int.natCast_zero, Int.toNat_natCast, Int.reduceToNat]
        refine sCallX_io [1000000000, 28] rfl ?_
        simp -dsimp -implicitDefEqProofs only [go_sem, ↓reduceIte, Nat.reduceEqDiff, Nat.reduceLT, Nat.reduceAdd, Nat.reduceMul, Nat.reduceLeDiff, Nat.le_refl, Int.natCast_zero, Int.toNat_natCast, Int.reduceToNat]
        refine sCallMX_one (qp _ _) ?_
        simp -dsimp -implicitDefEqProofs only [go_sem, ↓reduceIte, Nat.reduceEqDiff, Nat.reduceLT, Nat.reduceAdd, Nat.reduceMul, Nat.reduceLeDiff, Nat.le_refl, Int.natCast_zero, Int.toNat_natCast, Int.reduceToNat]
        refine ⟨⟨by omega, by omega⟩, by exact rfl, ?_⟩
        refine .inr ⟨by omega, ?_⟩
        refine Later.draw mixed rfl ?_
        simp -dsimp -implicitDefEqProofs only [go_sem, ↓reduceIte, Nat.reduceEqDiff, Nat.reduceLT, Nat.reduceAdd, Nat.reduceMul, Nat.reduceLeDiff, Nat.le_refl, Int.natCast_zero, Int.toNat_natCast, Int.reduceToNat]
        refine ⟨by exact rfl, by simp; omega, _, ?_, rfl⟩
        rw [List.take_of_length_le (by simp; omega)]
        exact List.map_set ▸ SubL.refl _
      rw [if_neg (beq_eq_false_iff_ne.1 b0)]
      rcases b1 : (n.1 == 1) with _ | _
      rotate_left
      · have e1 : n.1 = 1 := beq_iff_eq.1 b1
        rw [if_pos e1]
        clear e1
        simp -dsimp -implicitDefEqProofs only [go_sem, ↓reduceIte, Nat.reduceEqDiff, Nat.reduceLT, Nat.reduceAdd, Nat.reduceMul, Nat.reduceLeDiff, Nat.le_refl, Int.natCast_zero, Int.toNat_natCast, Int.reduceToNat, b0, b1]
        refine ⟨⟨by omega, by omega⟩, .inr ⟨by omega, ?_⟩⟩
        refine Later.draw mixed rfl ?_
        simp -dsimp -implicitDefEqProofs only [go_sem, ↓reduceIte, Nat.reduceEqDiff, Nat.reduceLT, Nat.reduceAdd, Nat.reduceMul, Nat.reduceLeDiff, Nat.le_refl, Int.natCast_zero, Int.toNat_natCast, Int.reduceToNat]
        refine ⟨by exact rfl, by simp; omega, _, ?_, rfl⟩
        rw [List.take_of_length_le (by simp; omega)]
        exact List.map_set ▸ SubL.refl _
      rw [if_neg (beq_eq_false_iff_ne.1 b1)]
      rcases b2 : (n.1 == 2) with _ | _
      rotate_left
      · have e2 : n.1 = 2 := beq_iff_eq.1 b2
        rw [if_pos e2]
        clear e2
        simp -dsimp -implicitDefEqProofs only [go_sem, ↓reduceIte, Nat.reduceEqDiff, Nat.reduceLT, Nat.reduceAdd, Nat.reduceMul, Nat.reduceLeDiff, Nat.le_refl, Int.natCast_zero, Int.toNat_natCast, Int.reduceToNat, b0, b1, b2]
        refine ⟨⟨by omega, by omega⟩, .inr ⟨by omega, ?_⟩⟩
        refine Later.draw mixed rfl ?_
        simp -dsimp -implicitDefEqProofs only [go_sem, ↓reduceIte, Nat.reduceEqDiff, Nat.reduceLT, Nat.reduceAdd, Nat.reduceMul, Nat.reduceLeDiff, Nat.le_refl, Int.natCast_zero, Int.toNat_natCast, Int.reduceToNat]
        refine ⟨by exact rfl, by simp; omega, _, ?_, rfl⟩
        rw [List.take_of_length_le (by simp; omega), List.map_set]
        exact SubL.set (Sub.nil _) _ _
      rw [if_neg (beq_eq_false_iff_ne.1 b2)]
      rcases b3 : (n.1 == 3) with _ | _
      rotate_left
      · have e3 : n.1 = 3 := beq_iff_eq.1 b3
        rw [if_pos e3]
        clear e3
        simp -dsimp -implicitDefEqProofs only [go_sem, ↓reduceIte, Nat.reduceEqDiff, Nat.reduceLT, Nat.reduceAdd, Nat.reduceMul, Nat.reduceLeDiff, Nat.le_refl, Int.natCast_zero, Int.toNat_natCast, Int.reduceToNat, b0, b1, b2, b3]
        refine Later.draw mixed rfl ?_
        simp -dsimp -implicitDefEqProofs only [go_sem, ↓reduceIte, Nat.reduceEqDiff, Nat.reduceLT, Nat.reduceAdd, Nat.reduceMul, Nat.reduceLeDiff, Nat.le_refl, Int.natCast_zero, Int.toNat_natCast, Int.reduceToNat]
        refine ⟨⟨by omega, by omega, by omega⟩, by exact rfl, by omega, _, SubL.refl _, ?_⟩
        rw [List.take_of_length_le (by simp; omega), List.map_drop]
      rw [if_neg (beq_eq_false_iff_ne.1 b3)]
      simp -dsimp -implicitDefEqProofs only [go_sem, ↓reduceIte, Nat.reduceEqDiff, Nat.reduceLT, Nat.reduceAdd, Nat.reduceMul, Nat.reduceLeDiff, Nat.le_refl, Int.natCast_zero, Int.toNat_natCast, Int.reduceToNat, b0, b1, b2, b3]
      refine Later.draw mixed rfl ?_
      simp -dsimp -implicitDefEqProofs only [go_sem, ↓reduceIte, Nat.reduceEqDiff, Nat.reduceLT, Nat.reduceAdd, Nat.reduceMul, Nat.reduceLeDiff, Nat.le_refl, Int.natCast_zero, Int.toNat_natCast, Int.reduceToNat]
      refine ⟨by exact rfl, by omega, _, SubL.refl _, ?_⟩
      rw [List.take_of_length_le (by simp; omega)]
end Go.Vc


/-
  Contracts of the functions on picking: orders, set chambers, codes.
-/
set_option linter.unusedVariables false
set_option linter.unusedSimpArgs false
set_option linter.unnecessarySimpa false
namespace Go.Vc
open Go.Proofs
set_option maxRecDepth 100000
attribute [go_sem] Option.map_none Nat.sub_zero
/-- what reads as x reads as y -/
abbrev eP (p : PkM) : AV := .agg [eI p.chamber, eI p.depth]
abbrev ePs (ps : List PkM) : AV := .arr ⟨2, true⟩ (ps.map eP)
theorem c_isChamberOrder (m : MkM) (o : List Int) (h : o.length ≤ 1048576) : Fn Try.prog 133 [eMk m, eIs o] true (· = eB (ordOk m o)) := by
  refine Fn.of_vcN 21 [.tmp 4] Try.func133 rfl rfl rfl rfl rfl (of_decide_eq_true rfl) ?_
  have ht : ((o.mergeSort fun x y => decide (x ≤ y)).map eI).take o.length = (o.mergeSort fun x y => decide (x ≤ y)).map eI := List.take_of_length_le (by simp)
  simp -dsimp -implicitDefEqProofs only [go_sem, ↓reduceIte, Nat.reduceEqDiff, Nat.reduceLT, Nat.reduceAdd, Nat.reduceMul, Nat.reduceLeDiff, Nat.le_refl, Int.natCast_zero, Int.toNat_natCast, Int.reduceToNat]
  repeat' (refine sCallT_one (c_CloneI o h) ?_; try simp -dsimp -implicitDefEqProofs only [go_sem, ↓reduceIte, Nat.reduceEqDiff, Nat.reduceLT, Nat.reduceAdd, Nat.reduceMul, Nat.reduceLeDiff, Nat.le_refl, Int.natCast_zero, Int.toNat_natCast, Int.reduceToNat, *])
  refine sCallT_io [8000] ?_
  simp -dsimp -implicitDefEqProofs only [go_sem, ↓reduceIte, Nat.reduceEqDiff, Nat.reduceLT, Nat.reduceAdd, Nat.reduceMul, Nat.reduceLeDiff, Nat.le_refl, Int.natCast_zero, Int.toNat_natCast, Int.reduceToNat]
  refine sCallM_one (c_SortI 0 o h) ?_
  simp -dsimp -implicitDefEqProofs only [go_sem, ↓reduceIte, Nat.reduceEqDiff, Nat.reduceLT, Nat.reduceAdd, Nat.reduceMul, Nat.reduceLeDiff, Nat.le_refl, Int.natCast_zero, Int.toNat_natCast, Int.reduceToNat, ht]
  repeat' first
    | (refine Br.intro (fun _ => ?_) (fun _ => ?_) <;> try simp -dsimp -implicitDefEqProofs only [go_sem, ↓reduceIte, Nat.reduceEqDiff, Nat.reduceLT, Nat.reduceAdd, Nat.reduceMul, Nat.reduceLeDiff, Nat.le_refl, Int.natCast_zero, Int.toNat_natCast, Int.reduceToNat, *])
    | (with_reducible refine And.intro ?_ ?_)
  all_goals try (first | omega | (simp; done) | (simp_all [ordOk]; done))
  refine sCallT_one (c_IsRising (o.mergeSort fun x y => decide (x ≤ y)) m.chambers (by simpa using (by omega))) ?_
  rw [rises_sort]
  try simp -dsimp -implicitDefEqProofs only [go_sem, ↓reduceIte, Nat.reduceEqDiff, Nat.reduceLT, Nat.reduceAdd, Nat.reduceMul, Nat.reduceLeDiff, Nat.le_refl, Int.natCast_zero, Int.toNat_natCast, Int.reduceToNat, *]
  repeat' first
    | (refine Br.intro (fun _ => ?_) (fun _ => ?_) <;> try simp -dsimp -implicitDefEqProofs only [go_sem, ↓reduceIte, Nat.reduceEqDiff, Nat.reduceLT, Nat.reduceAdd, Nat.reduceMul, Nat.reduceLeDiff, Nat.le_refl, Int.natCast_zero, Int.toNat_natCast, Int.reduceToNat, *])
    | (with_reducible refine And.intro ?_ ?_)
  all_goals first
    | (simp_all [ordOk]; done)
    | trace_state
theorem ordOk_no1 {m : MkM} {o : List Int} {i : Nat} (hi : i < o.length) (h : isIn o[i] 0 (m.chambers - 1) = false) : ordOk m o = false := by
  rw [ordOk, all_no (p := fun x => isIn x 0 (m.chambers - 1)) hi h]; simp
theorem ordOk_no2 {m : MkM} {o : List Int} {i : Nat} (hi : i < o.length) (h : has (o.take i) o[i] = true) : ordOk m o = false := by
  rw [ordOk, decide_eq_false (nodup_no hi h)]; simp
theorem c_l32Order (m : MkM) (o : List Int) (hm : 2 ≤ m.chambers ∧ m.chambers ≤ 6) (h : o.length ≤ 1048576) : Fn Try.prog 102 [eMk m, eIs o] true (· = eB (ordOk m o)) := by
  refine Fn.of_vcN 36 [.tmp 4] Try.func102 rfl rfl rfl rfl rfl (of_decide_eq_true rfl) ?_
  simp -dsimp -implicitDefEqProofs only [go_sem, ↓reduceIte, Nat.reduceEqDiff, Nat.reduceLT, Nat.reduceAdd, Nat.reduceMul, Nat.reduceLeDiff, Nat.le_refl, Int.natCast_zero, Int.toNat_natCast, Int.reduceToNat]
  refine Later.up [1, 2] [8, 19, 29] [] o.length (fun i => (o.take i).all (fun x => isIn x 0 (m.chambers - 1)) = true ∧ (o.take i).Nodup) (fun i => [(5, eI i)]) (fun _ => []) (by simp) ?_ rfl (fun i hi hI => ?_) (fun hI => ?_)
  · simp -dsimp -implicitDefEqProofs only [go_sem, ↓reduceIte, Nat.reduceEqDiff, Nat.reduceLT, Nat.reduceAdd, Nat.reduceMul, Nat.reduceLeDiff, Nat.le_refl, Int.natCast_zero, Int.toNat_natCast, Int.reduceToNat]
  · have gi := get_some hi
    have li := lt_len hi
    have n1 : isIn o[i] 0 (m.chambers - 1) = false → ordOk m o = false := ordOk_no1 hi
    have n2 : has (o.take i) o[i] = true → ordOk m o = false := ordOk_no2 hi
    have yes1 : isIn o[i] 0 (m.chambers - 1) = true → (o.take (i + 1)).all (fun x => isIn x 0 (m.chambers - 1)) = true := fun h1 => by rw [all_take _ _ _ hi, hI.1, h1]; rfl
    have yes2 : has (o.take i) o[i] = false → (o.take (i + 1)).Nodup := nodup_take hi hI.2
    clear hI
    simp -dsimp -implicitDefEqProofs only [pick_nil, pick_cons, look_nil, look_cons, dropB_nil, dropB_cons, inD_nil, inD_cons, inE_nil, inE_cons, or_t_l, or_f_l, Nat.reduceBEq, Nat.reduceDiv, Nat.reduceAdd, beq_self_eq_true, Bool.false_eq_true, Bool.or_false, ↓reduceIte, Nat.reduceEqDiff, List.cons_append, List.nil_append]
    simp -dsimp -implicitDefEqProofs only [go_sem, ↓reduceIte, Nat.reduceEqDiff, Nat.reduceLT, Nat.reduceAdd, Nat.reduceMul, Nat.reduceLeDiff, Nat.le_refl, Int.natCast_zero, Int.toNat_natCast, Int.reduceToNat, li, gi]
    repeat' first
      | (refine Br.intro (fun _ => ?_) (fun _ => ?_) <;> try simp -dsimp -implicitDefEqProofs only [go_sem, ↓reduceIte, Nat.reduceEqDiff, Nat.reduceLT, Nat.reduceAdd, Nat.reduceMul, Nat.reduceLeDiff, Nat.le_refl, Int.natCast_zero, Int.toNat_natCast, Int.reduceToNat, *])
      | (with_reducible refine And.intro ?_ ?_)
      | (refine Later.draw mixed rfl ?_; try simp -dsimp -implicitDefEqProofs only [go_sem, ↓reduceIte, Nat.reduceEqDiff, Nat.reduceLT, Nat.reduceAdd, Nat.reduceMul, Nat.reduceLeDiff, Nat.le_refl, Int.natCast_zero, Int.toNat_natCast, Int.reduceToNat, *])
      | (refine sCallX_one (c_l01In _ _ _) ?_; try simp -dsimp -implicitDefEqProofs only [go_sem, ↓reduceIte, Nat.reduceEqDiff, Nat.reduceLT, Nat.reduceAdd, Nat.reduceMul, Nat.reduceLeDiff, Nat.le_refl, Int.natCast_zero, Int.toNat_natCast, Int.reduceToNat, *])
      | (rw [← List.map_take]; refine sCallX_one (c_l01Has (o.take i) o[i] (by simp; omega)) ?_; try simp -dsimp -implicitDefEqProofs only [go_sem, ↓reduceIte, Nat.reduceEqDiff, Nat.reduceLT, Nat.reduceAdd, Nat.reduceMul, Nat.reduceLeDiff, Nat.le_refl, Int.natCast_zero, Int.toNat_natCast, Int.reduceToNat, *])
    all_goals first
      | omega
      | (refine ⟨?_, ?_⟩ <;> omega)
      | rfl
      | (simp; done)
      | (rw [n1]; clear n1 n2 yes1 yes2; simp_all; done)
      | (rw [n2]; clear n1 n2 yes1 yes2; simp_all; done)
      | (refine yes1 ?_; clear n1 n2 yes1 yes2; simp_all; done)
      | (refine yes2 ?_; clear n1 n2 yes1 yes2; simp_all; done)
      | trace_state
  · simp -dsimp -implicitDefEqProofs only [pick_nil, pick_cons, look_nil, look_cons, dropB_nil, dropB_cons, inD_nil, inD_cons, inE_nil, inE_cons, or_t_l, or_f_l, Nat.reduceBEq, Nat.reduceDiv, Nat.reduceAdd, beq_self_eq_true, Bool.false_eq_true, Bool.or_false, ↓reduceIte, Nat.reduceEqDiff, List.cons_append, List.nil_append]
    simp -dsimp -implicitDefEqProofs only [go_sem, ↓reduceIte, Nat.reduceEqDiff, Nat.reduceLT, Nat.reduceAdd, Nat.reduceMul, Nat.reduceLeDiff, Nat.le_refl, Int.natCast_zero, Int.toNat_natCast, Int.reduceToNat, nlt_len]
    rw [List.take_length] at hI
    repeat' (with_reducible refine And.intro ?_ ?_)
    all_goals first
      | omega
      | (rw [ordOk, hI.1, decide_eq_true hI.2]; simp; done)
      | (simp_all [ordOk]; done)
      | trace_state
theorem c_areSet (m : MkM) (o s : List Int) (hch : (o.length : Int) = m.chambers) (h : o.length ≤ 1048576) (h2 : s.length ≤ 1048576) : Fn Try.prog 134 [eMk m, eIs o, eIs s] true (· = eB (setOk o s)) := by
  refine Fn.of_vcN 28 [.tmp 6] Try.func134 rfl rfl rfl rfl rfl (of_decide_eq_true rfl) ?_
  have hr : rises s m.chambers = true → s.length ≤ o.length := fun hh => by have := rises_len (by omega) hh; omega
  have hd : setOk o s = (rises s m.chambers && (o.take s.length).all fun c => has s c) := by rw [setOk, hch]
  simp -dsimp -implicitDefEqProofs only [go_sem, ↓reduceIte, Nat.reduceEqDiff, Nat.reduceLT, Nat.reduceAdd, Nat.reduceMul, Nat.reduceLeDiff, Nat.le_refl, Int.natCast_zero, Int.toNat_natCast, Int.reduceToNat]
  repeat' first
    | (refine Br.intro (fun _ => ?_) (fun _ => ?_) <;> try simp -dsimp -implicitDefEqProofs only [go_sem, ↓reduceIte, Nat.reduceEqDiff, Nat.reduceLT, Nat.reduceAdd, Nat.reduceMul, Nat.reduceLeDiff, Nat.le_refl, Int.natCast_zero, Int.toNat_natCast, Int.reduceToNat, *])
    | (with_reducible refine And.intro ?_ ?_)
    | (refine sCallT_one (c_IsRising s m.chambers (by omega)) ?_; try simp -dsimp -implicitDefEqProofs only [go_sem, ↓reduceIte, Nat.reduceEqDiff, Nat.reduceLT, Nat.reduceAdd, Nat.reduceMul, Nat.reduceLeDiff, Nat.le_refl, Int.natCast_zero, Int.toNat_natCast, Int.reduceToNat, *])
  all_goals try (first | omega | (simp_all; done))
  · have := hr (by simp_all); omega
  have hsl : s.length ≤ o.length := hr (by simp_all)
  have hrs : rises s m.chambers = true := by simp_all
  have hl : (o.take s.length).length = s.length := by simp; omega
  have hmn : min s.length o.length = s.length := by omega
  rw [hrs, Bool.true_and] at hd
  refine Later.up [2, 17, 18] [25] [] s.length (fun i => (o.take i).all (fun c => has s c)) (fun i => [(19, eI i)]) (fun _ => []) (by simp) ?_ rfl (fun i hi hI => ?_) (fun hI => ?_)
  · simp -dsimp -implicitDefEqProofs only [go_sem, ↓reduceIte, Nat.reduceEqDiff, Nat.reduceLT, Nat.reduceAdd, Nat.reduceMul, Nat.reduceLeDiff, Nat.le_refl, Int.natCast_zero, Int.toNat_natCast, Int.reduceToNat, hmn]
  · have hi2 : i < o.length := by omega
    have li := lt_len hi
    have no : has s o[i] = false → setOk o s = false := fun h => by
      rw [hd, List.all_eq_false]
      exact ⟨o[i], List.mem_take_iff_getElem.2 ⟨i, by omega, rfl⟩, by simp [h]⟩
    have yes : has s o[i] = true → (o.take (i + 1)).all (fun c => has s c) = true := fun h => by rw [all_take _ _ _ hi2, hI, h]; rfl
    clear hI hd
    have gi : ((o.map eI).take s.length)[i]? = some (eI o[i]) := by rw [← List.map_take, List.getElem?_map, List.getElem?_take_of_lt hi, List.getElem?_eq_getElem hi2]; rfl
    simp -dsimp -implicitDefEqProofs only [pick_nil, pick_cons, look_nil, look_cons, dropB_nil, dropB_cons, inD_nil, inD_cons, inE_nil, inE_cons, or_t_l, or_f_l, Nat.reduceBEq, Nat.reduceDiv, Nat.reduceAdd, beq_self_eq_true, Bool.false_eq_true, Bool.or_false, ↓reduceIte, Nat.reduceEqDiff, List.cons_append, List.nil_append]
    simp -dsimp -implicitDefEqProofs only [go_sem, ↓reduceIte, Nat.reduceEqDiff, Nat.reduceLT, Nat.reduceAdd, Nat.reduceMul, Nat.reduceLeDiff, Nat.le_refl, Int.natCast_zero, Int.toNat_natCast, Int.reduceToNat, li, gi, hmn]
    repeat' first
      | (refine Br.intro (fun _ => ?_) (fun _ => ?_) <;> try simp -dsimp -implicitDefEqProofs only [go_sem, ↓reduceIte, Nat.reduceEqDiff, Nat.reduceLT, Nat.reduceAdd, Nat.reduceMul, Nat.reduceLeDiff, Nat.le_refl, Int.natCast_zero, Int.toNat_natCast, Int.reduceToNat, *])
      | (with_reducible refine And.intro ?_ ?_)
      | (refine sCallT_one (c_Contains s o[i] h2) ?_; try simp -dsimp -implicitDefEqProofs only [go_sem, ↓reduceIte, Nat.reduceEqDiff, Nat.reduceLT, Nat.reduceAdd, Nat.reduceMul, Nat.reduceLeDiff, Nat.le_refl, Int.natCast_zero, Int.toNat_natCast, Int.reduceToNat, *])
    all_goals first
      | omega
      | (refine ⟨?_, ?_⟩ <;> omega)
      | rfl
      | (simp; done)
      | (rw [no]; clear no yes; simp_all []; done) | (rw [no]; clear no yes; simp_all []; omega) | (refine yes ?_; clear no yes; simp_all []; done) | (refine yes ?_; clear no yes; simp_all []; omega)
      | trace_state
  · simp -dsimp -implicitDefEqProofs only [pick_nil, pick_cons, look_nil, look_cons, dropB_nil, dropB_cons, inD_nil, inD_cons, inE_nil, inE_cons, or_t_l, or_f_l, Nat.reduceBEq, Nat.reduceDiv, Nat.reduceAdd, beq_self_eq_true, Bool.false_eq_true, Bool.or_false, ↓reduceIte, Nat.reduceEqDiff, List.cons_append, List.nil_append]
    simp -dsimp -implicitDefEqProofs only [go_sem, ↓reduceIte, Nat.reduceEqDiff, Nat.reduceLT, Nat.reduceAdd, Nat.reduceMul, Nat.reduceLeDiff, Nat.le_refl, Int.natCast_zero, Int.toNat_natCast, Int.reduceToNat, nlt_len, hmn]
    rw [hd, hI]
theorem c_l32Set (o s : List Int) (h : o.length ≤ 1048576) (h2 : s.length ≤ 1048576) : Fn Try.prog 135 [eIs o, eIs s] true (· = eB (setOk o s)) := by
  refine Fn.of_vcN 24 [.tmp 4] Try.func135 rfl rfl rfl rfl rfl (of_decide_eq_true rfl) ?_
  rcases hrs : rises s (o.length : Int) with _ | _
  · simp -dsimp -implicitDefEqProofs only [go_sem, ↓reduceIte, Nat.reduceEqDiff, Nat.reduceLT, Nat.reduceAdd, Nat.reduceMul, Nat.reduceLeDiff, Nat.le_refl, Int.natCast_zero, Int.toNat_natCast, Int.reduceToNat]
    repeat' first
      | (refine Br.intro (fun _ => ?_) (fun _ => ?_) <;> try simp -dsimp -implicitDefEqProofs only [go_sem, ↓reduceIte, Nat.reduceEqDiff, Nat.reduceLT, Nat.reduceAdd, Nat.reduceMul, Nat.reduceLeDiff, Nat.le_refl, Int.natCast_zero, Int.toNat_natCast, Int.reduceToNat, *])
      | (with_reducible refine And.intro ?_ ?_)
      | (refine sCallT_one (c_l01Rises s _ (by omega)) ?_; try simp -dsimp -implicitDefEqProofs only [go_sem, ↓reduceIte, Nat.reduceEqDiff, Nat.reduceLT, Nat.reduceAdd, Nat.reduceMul, Nat.reduceLeDiff, Nat.le_refl, Int.natCast_zero, Int.toNat_natCast, Int.reduceToNat, *])
    all_goals first
      | omega
      | (simp [setOk, hrs]; done)
      | trace_state
  have hsl : s.length ≤ o.length := by have := rises_len (by omega) hrs; omega
  have hd : setOk o s = ((o.take s.length).all fun c => has s c) := by rw [setOk, hrs, Bool.true_and]
  simp -dsimp -implicitDefEqProofs only [go_sem, ↓reduceIte, Nat.reduceEqDiff, Nat.reduceLT, Nat.reduceAdd, Nat.reduceMul, Nat.reduceLeDiff, Nat.le_refl, Int.natCast_zero, Int.toNat_natCast, Int.reduceToNat]
  repeat' first
    | (refine Br.intro (fun _ => ?_) (fun _ => ?_) <;> try simp -dsimp -implicitDefEqProofs only [go_sem, ↓reduceIte, Nat.reduceEqDiff, Nat.reduceLT, Nat.reduceAdd, Nat.reduceMul, Nat.reduceLeDiff, Nat.le_refl, Int.natCast_zero, Int.toNat_natCast, Int.reduceToNat, *])
    | (with_reducible refine And.intro ?_ ?_)
    | (refine sCallT_one (c_l01Rises s _ (by omega)) ?_; try simp -dsimp -implicitDefEqProofs only [go_sem, ↓reduceIte, Nat.reduceEqDiff, Nat.reduceLT, Nat.reduceAdd, Nat.reduceMul, Nat.reduceLeDiff, Nat.le_refl, Int.natCast_zero, Int.toNat_natCast, Int.reduceToNat, *])
  all_goals try (first | omega | (simp_all; done))
  refine Later.up [0, 1] [13, 22] [] s.length (fun i => (o.take i).all (fun c => has s c)) (fun i => [(5, eI i)]) (fun _ => []) (by simp) ?_ rfl (fun i hi hI => ?_) (fun hI => ?_)
  · simp -dsimp -implicitDefEqProofs only [go_sem, ↓reduceIte, Nat.reduceEqDiff, Nat.reduceLT, Nat.reduceAdd, Nat.reduceMul, Nat.reduceLeDiff, Nat.le_refl, Int.natCast_zero, Int.toNat_natCast, Int.reduceToNat]
  · have hi2 : i < o.length := by omega
    have li := lt_len hi
    have gi := get_some hi2
    have no : has s o[i] = false → setOk o s = false := fun h => by
      rw [hd, List.all_eq_false]
      exact ⟨o[i], List.mem_take_iff_getElem.2 ⟨i, by omega, rfl⟩, by simp [h]⟩
    have yes : has s o[i] = true → (o.take (i + 1)).all (fun c => has s c) = true := fun h => by rw [all_take _ _ _ hi2, hI, h]; rfl
    clear hI hd
    simp -dsimp -implicitDefEqProofs only [pick_nil, pick_cons, look_nil, look_cons, dropB_nil, dropB_cons, inD_nil, inD_cons, inE_nil, inE_cons, or_t_l, or_f_l, Nat.reduceBEq, Nat.reduceDiv, Nat.reduceAdd, beq_self_eq_true, Bool.false_eq_true, Bool.or_false, ↓reduceIte, Nat.reduceEqDiff, List.cons_append, List.nil_append]
    simp -dsimp -implicitDefEqProofs only [go_sem, ↓reduceIte, Nat.reduceEqDiff, Nat.reduceLT, Nat.reduceAdd, Nat.reduceMul, Nat.reduceLeDiff, Nat.le_refl, Int.natCast_zero, Int.toNat_natCast, Int.reduceToNat, li, gi]
    repeat' first
      | (refine Br.intro (fun _ => ?_) (fun _ => ?_) <;> try simp -dsimp -implicitDefEqProofs only [go_sem, ↓reduceIte, Nat.reduceEqDiff, Nat.reduceLT, Nat.reduceAdd, Nat.reduceMul, Nat.reduceLeDiff, Nat.le_refl, Int.natCast_zero, Int.toNat_natCast, Int.reduceToNat, *])
      | (with_reducible refine And.intro ?_ ?_)
      | (refine Later.draw mixed rfl ?_; try simp -dsimp -implicitDefEqProofs only [go_sem, ↓reduceIte, Nat.reduceEqDiff, Nat.reduceLT, Nat.reduceAdd, Nat.reduceMul, Nat.reduceLeDiff, Nat.le_refl, Int.natCast_zero, Int.toNat_natCast, Int.reduceToNat, *])
      | (refine sCallT_one (c_l01Has s o[i] h2) ?_; try simp -dsimp -implicitDefEqProofs only [go_sem, ↓reduceIte, Nat.reduceEqDiff, Nat.reduceLT, Nat.reduceAdd, Nat.reduceMul, Nat.reduceLeDiff, Nat.le_refl, Int.natCast_zero, Int.toNat_natCast, Int.reduceToNat, *])
      | (refine sCallX_one (c_l01Has s o[i] h2) ?_; try simp -dsimp -implicitDefEqProofs only [go_sem, ↓reduceIte, Nat.reduceEqDiff, Nat.reduceLT, Nat.reduceAdd, Nat.reduceMul, Nat.reduceLeDiff, Nat.le_refl, Int.natCast_zero, Int.toNat_natCast, Int.reduceToNat, *])
    all_goals first
      | omega
      | (refine ⟨?_, ?_⟩ <;> omega)
      | rfl
      | (simp; done)
      | (rw [no]; clear no yes; simp_all []; done) | (rw [no]; clear no yes; simp_all []; omega) | (refine yes ?_; clear no yes; simp_all []; done) | (refine yes ?_; clear no yes; simp_all []; omega)
      | trace_state
  · simp -dsimp -implicitDefEqProofs only [pick_nil, pick_cons, look_nil, look_cons, dropB_nil, dropB_cons, inD_nil, inD_cons, inE_nil, inE_cons, or_t_l, or_f_l, Nat.reduceBEq, Nat.reduceDiv, Nat.reduceAdd, beq_self_eq_true, Bool.false_eq_true, Bool.or_false, ↓reduceIte, Nat.reduceEqDiff, List.cons_append, List.nil_append]
    simp -dsimp -implicitDefEqProofs only [go_sem, ↓reduceIte, Nat.reduceEqDiff, Nat.reduceLT, Nat.reduceAdd, Nat.reduceMul, Nat.reduceLeDiff, Nat.le_refl, Int.natCast_zero, Int.toNat_natCast, Int.reduceToNat, nlt_len]
    rw [hd, hI]
theorem c_l32Pick (m : MkM) (p : PkM) (hk : (2 ≤ m.chambers ∧ m.chambers ≤ 6) ∧ 2 ≤ m.depths ∧ m.depths ≤ 8) : Fn Try.prog 103 [eMk m, eP p] true (· = eB (pickOk m p)) := by
  refine Fn.of_vcN 19 [.tmp 4] Try.func103 rfl rfl rfl rfl rfl (of_decide_eq_true rfl) ?_
  simp -dsimp -implicitDefEqProofs only [go_sem, ↓reduceIte, Nat.reduceEqDiff, Nat.reduceLT, Nat.reduceAdd, Nat.reduceMul, Nat.reduceLeDiff, Nat.le_refl, Int.natCast_zero, Int.toNat_natCast, Int.reduceToNat]
  repeat' first
    | (refine Br.intro (fun _ => ?_) (fun _ => ?_) <;> try simp -dsimp -implicitDefEqProofs only [go_sem, ↓reduceIte, Nat.reduceEqDiff, Nat.reduceLT, Nat.reduceAdd, Nat.reduceMul, Nat.reduceLeDiff, Nat.le_refl, Int.natCast_zero, Int.toNat_natCast, Int.reduceToNat, *])
    | (with_reducible refine And.intro ?_ ?_)
    | (refine sCallT_one (c_l01In _ _ _) ?_; try simp -dsimp -implicitDefEqProofs only [go_sem, ↓reduceIte, Nat.reduceEqDiff, Nat.reduceLT, Nat.reduceAdd, Nat.reduceMul, Nat.reduceLeDiff, Nat.le_refl, Int.natCast_zero, Int.toNat_natCast, Int.reduceToNat, *])
  all_goals first
    | omega
    | (refine ⟨?_, ?_⟩ <;> omega)
    | (simp_all [pickOk]; done)
    | trace_state
theorem c_locksCode1 (m : MkM) (l : List (List Int)) (h : l.length ≤ 1048576) (h2 : ∀ x ∈ l, x.length ≤ 1048576) : Fn Try.prog 81 [eMk m, .arr ⟨1, true⟩ [eLk l]] true (· = eI (if isLk m l then 0 else 1)) := by
  have := c_locksCode m [l] (by simp) (fun x hx => by
    have : x = l := by simpa using hx
    subst this; exact ⟨h, h2⟩)
  rw [lkCodes_one] at this
  exact this
theorem ordOk_ch {m : MkM} {o : List Int} (h : ordOk m o = true) : (o.length : Int) = m.chambers := by
  simp only [ordOk, Bool.and_eq_true, beq_iff_eq] at h; exact h.1
theorem isLk_mk {m : MkM} {l : List (List Int)} (h : isLk m l = true) : (2 ≤ m.chambers ∧ m.chambers ≤ 6) ∧ 2 ≤ m.depths ∧ m.depths ≤ 8 := by
  simp only [isLk, Bool.and_eq_true] at h; exact isMk_num h.1
theorem c_l32Code (m : MkM) (l : List (List Int)) (o s : List Int) (h : l.length ≤ 1048576) (h2 : ∀ x ∈ l, x.length ≤ 1048576) (h3 : o.length ≤ 1048576) (h4 : s.length ≤ 1048576) : Fn Try.prog 111 [eMk m, eLk l, eIs o, eIs s] true (· = eI (pkCode m l o s)) := by
  refine Fn.of_vcN 23 [.tmp 8] Try.func111 rfl rfl rfl rfl rfl (of_decide_eq_true rfl) ?_
  rcases hb : isLk m l with _ | _
  · simp -dsimp -implicitDefEqProofs only [go_sem, ↓reduceIte, Nat.reduceEqDiff, Nat.reduceLT, Nat.reduceAdd, Nat.reduceMul, Nat.reduceLeDiff, Nat.le_refl, Int.natCast_zero, Int.toNat_natCast, Int.reduceToNat]
    repeat' first
      | (refine Br.intro (fun _ => ?_) (fun _ => ?_) <;> try simp -dsimp -implicitDefEqProofs only [go_sem, ↓reduceIte, Nat.reduceEqDiff, Nat.reduceLT, Nat.reduceAdd, Nat.reduceMul, Nat.reduceLeDiff, Nat.le_refl, Int.natCast_zero, Int.toNat_natCast, Int.reduceToNat, *])
      | (with_reducible refine And.intro ?_ ?_)
      | (refine sCallT_one (c_sIsLock m l h h2) ?_; try simp -dsimp -implicitDefEqProofs only [go_sem, ↓reduceIte, Nat.reduceEqDiff, Nat.reduceLT, Nat.reduceAdd, Nat.reduceMul, Nat.reduceLeDiff, Nat.le_refl, Int.natCast_zero, Int.toNat_natCast, Int.reduceToNat, *])
    all_goals first
      | omega
      | (simp_all [pkCode]; done)
      | trace_state
  have hk := isLk_mk hb
  simp -dsimp -implicitDefEqProofs only [go_sem, ↓reduceIte, Nat.reduceEqDiff, Nat.reduceLT, Nat.reduceAdd, Nat.reduceMul, Nat.reduceLeDiff, Nat.le_refl, Int.natCast_zero, Int.toNat_natCast, Int.reduceToNat]
  repeat' first
    | (refine Br.intro (fun _ => ?_) (fun _ => ?_) <;> try simp -dsimp -implicitDefEqProofs only [go_sem, ↓reduceIte, Nat.reduceEqDiff, Nat.reduceLT, Nat.reduceAdd, Nat.reduceMul, Nat.reduceLeDiff, Nat.le_refl, Int.natCast_zero, Int.toNat_natCast, Int.reduceToNat, *])
    | (with_reducible refine And.intro ?_ ?_)
    | (refine sCallT_one (c_sIsLock m l h h2) ?_; try simp -dsimp -implicitDefEqProofs only [go_sem, ↓reduceIte, Nat.reduceEqDiff, Nat.reduceLT, Nat.reduceAdd, Nat.reduceMul, Nat.reduceLeDiff, Nat.le_refl, Int.natCast_zero, Int.toNat_natCast, Int.reduceToNat, *])
    | (refine sCallT_one (c_l32Order m o hk.1 h3) ?_; try simp -dsimp -implicitDefEqProofs only [go_sem, ↓reduceIte, Nat.reduceEqDiff, Nat.reduceLT, Nat.reduceAdd, Nat.reduceMul, Nat.reduceLeDiff, Nat.le_refl, Int.natCast_zero, Int.toNat_natCast, Int.reduceToNat, *])
    | (refine sCallT_one (c_l32Set o s h3 h4) ?_; try simp -dsimp -implicitDefEqProofs only [go_sem, ↓reduceIte, Nat.reduceEqDiff, Nat.reduceLT, Nat.reduceAdd, Nat.reduceMul, Nat.reduceLeDiff, Nat.le_refl, Int.natCast_zero, Int.toNat_natCast, Int.reduceToNat, *])
  all_goals first
    | omega
    | (simp_all [pkCode]; done)
    | trace_state
theorem c_pickCode (m : MkM) (l : List (List Int)) (o s : List Int) (ps : List PkM) (h : l.length ≤ 1048576) (h2 : ∀ x ∈ l, x.length ≤ 1048576) (h3 : o.length ≤ 1048576) (h4 : s.length ≤ 1048576) (h5 : ps.length ≤ 1048576) : Fn Try.prog 105 [eMk m, eLk l, eIs o, eIs s, ePs ps] true (· = eI (pksCode m l o s ps)) := by
  refine Fn.of_vcN 58 [.tmp 10] Try.func105 rfl rfl rfl rfl rfl (of_decide_eq_true rfl) ?_
  rcases hb : isLk m l with _ | _
  · simp -dsimp -implicitDefEqProofs only [go_sem, ↓reduceIte, Nat.reduceEqDiff, Nat.reduceLT, Nat.reduceAdd, Nat.reduceMul, Nat.reduceLeDiff, Nat.le_refl, Int.natCast_zero, Int.toNat_natCast, Int.reduceToNat]
    repeat' first
      | (refine Br.intro (fun _ => ?_) (fun _ => ?_) <;> try simp -dsimp -implicitDefEqProofs only [go_sem, ↓reduceIte, Nat.reduceEqDiff, Nat.reduceLT, Nat.reduceAdd, Nat.reduceMul, Nat.reduceLeDiff, Nat.le_refl, Int.natCast_zero, Int.toNat_natCast, Int.reduceToNat, *])
      | (with_reducible refine And.intro ?_ ?_)
      | (refine sCallT_one (c_locksCode1 m l h h2) ?_; try simp -dsimp -implicitDefEqProofs only [go_sem, ↓reduceIte, Nat.reduceEqDiff, Nat.reduceLT, Nat.reduceAdd, Nat.reduceMul, Nat.reduceLeDiff, Nat.le_refl, Int.natCast_zero, Int.toNat_natCast, Int.reduceToNat, *])
    all_goals first
      | omega
      | (simp_all [pksCode, pkCode]; done)
      | trace_state
  have hk := isLk_mk hb
  rcases ho : ordOk m o with _ | _
  · simp -dsimp -implicitDefEqProofs only [go_sem, ↓reduceIte, Nat.reduceEqDiff, Nat.reduceLT, Nat.reduceAdd, Nat.reduceMul, Nat.reduceLeDiff, Nat.le_refl, Int.natCast_zero, Int.toNat_natCast, Int.reduceToNat]
    repeat' first
      | (refine Br.intro (fun _ => ?_) (fun _ => ?_) <;> try simp -dsimp -implicitDefEqProofs only [go_sem, ↓reduceIte, Nat.reduceEqDiff, Nat.reduceLT, Nat.reduceAdd, Nat.reduceMul, Nat.reduceLeDiff, Nat.le_refl, Int.natCast_zero, Int.toNat_natCast, Int.reduceToNat, *])
      | (with_reducible refine And.intro ?_ ?_)
      | (refine sCallT_one (c_locksCode1 m l h h2) ?_; try simp -dsimp -implicitDefEqProofs only [go_sem, ↓reduceIte, Nat.reduceEqDiff, Nat.reduceLT, Nat.reduceAdd, Nat.reduceMul, Nat.reduceLeDiff, Nat.le_refl, Int.natCast_zero, Int.toNat_natCast, Int.reduceToNat, *])
      | (refine sCallT_one (c_isChamberOrder m o h3) ?_; try simp -dsimp -implicitDefEqProofs only [go_sem, ↓reduceIte, Nat.reduceEqDiff, Nat.reduceLT, Nat.reduceAdd, Nat.reduceMul, Nat.reduceLeDiff, Nat.le_refl, Int.natCast_zero, Int.toNat_natCast, Int.reduceToNat, *])
    all_goals first
      | omega
      | (simp_all [pksCode, pkCode]; done)
      | trace_state
  have hch := ordOk_ch ho
  simp -dsimp -implicitDefEqProofs only [go_sem, ↓reduceIte, Nat.reduceEqDiff, Nat.reduceLT, Nat.reduceAdd, Nat.reduceMul, Nat.reduceLeDiff, Nat.le_refl, Int.natCast_zero, Int.toNat_natCast, Int.reduceToNat]
  repeat' first
    | (refine Br.intro (fun _ => ?_) (fun _ => ?_) <;> try simp -dsimp -implicitDefEqProofs only [go_sem, ↓reduceIte, Nat.reduceEqDiff, Nat.reduceLT, Nat.reduceAdd, Nat.reduceMul, Nat.reduceLeDiff, Nat.le_refl, Int.natCast_zero, Int.toNat_natCast, Int.reduceToNat, *])
    | (with_reducible refine And.intro ?_ ?_)
    | (refine sCallT_one (c_locksCode1 m l h h2) ?_; try simp -dsimp -implicitDefEqProofs only [go_sem, ↓reduceIte, Nat.reduceEqDiff, Nat.reduceLT, Nat.reduceAdd, Nat.reduceMul, Nat.reduceLeDiff, Nat.le_refl, Int.natCast_zero, Int.toNat_natCast, Int.reduceToNat, *])
    | (refine sCallT_one (c_isChamberOrder m o h3) ?_; try simp -dsimp -implicitDefEqProofs only [go_sem, ↓reduceIte, Nat.reduceEqDiff, Nat.reduceLT, Nat.reduceAdd, Nat.reduceMul, Nat.reduceLeDiff, Nat.le_refl, Int.natCast_zero, Int.toNat_natCast, Int.reduceToNat, *])
    | (refine sCallT_one (c_areSet m o s hch h3 h4) ?_; try simp -dsimp -implicitDefEqProofs only [go_sem, ↓reduceIte, Nat.reduceEqDiff, Nat.reduceLT, Nat.reduceAdd, Nat.reduceMul, Nat.reduceLeDiff, Nat.le_refl, Int.natCast_zero, Int.toNat_natCast, Int.reduceToNat, *])
  all_goals try (first | omega | (simp_all [pksCode, pkCode]; done))
  rename_i hs
  have hs : setOk o s = true := by simp_all
  have hc0 : pkCode m l o s = 0 := by rw [pkCode, hb, ho, hs]; rfl
  have hd : pksCode m l o s ps = if ps.all (pickOk m) then (if ps.length > 300 then 3 else 0) else 2 := by rw [pksCode, if_pos hc0]
  refine Later.up [4, 5, 32, 33] [13, 43, 51] [] ps.length (fun i => (ps.take i).all (pickOk m)) (fun i => [(34, eI i)]) (fun _ => []) (by simp) ?_ rfl (fun i hi hI => ?_) (fun hI => ?_)
  · simp -dsimp -implicitDefEqProofs only [go_sem, ↓reduceIte, Nat.reduceEqDiff, Nat.reduceLT, Nat.reduceAdd, Nat.reduceMul, Nat.reduceLeDiff, Nat.le_refl, Int.natCast_zero, Int.toNat_natCast, Int.reduceToNat]
  · have li := lt_len hi
    have gi := get_some hi
    have no : pickOk m ps[i] = false → pksCode m l o s ps = 2 := fun h => by rw [hd, all_no hi h]; rfl
    have yes : pickOk m ps[i] = true → (ps.take (i + 1)).all (pickOk m) = true := fun h => by rw [all_take _ _ _ hi, hI, h]; rfl
    clear hI hd
    simp -dsimp -implicitDefEqProofs only [pick_nil, pick_cons, look_nil, look_cons, dropB_nil, dropB_cons, inD_nil, inD_cons, inE_nil, inE_cons, or_t_l, or_f_l, Nat.reduceBEq, Nat.reduceDiv, Nat.reduceAdd, beq_self_eq_true, Bool.false_eq_true, Bool.or_false, ↓reduceIte, Nat.reduceEqDiff, List.cons_append, List.nil_append]
    simp -dsimp -implicitDefEqProofs only [go_sem, ↓reduceIte, Nat.reduceEqDiff, Nat.reduceLT, Nat.reduceAdd, Nat.reduceMul, Nat.reduceLeDiff, Nat.le_refl, Int.natCast_zero, Int.toNat_natCast, Int.reduceToNat, li, gi]
    repeat' first
      | (refine Br.intro (fun _ => ?_) (fun _ => ?_) <;> try simp -dsimp -implicitDefEqProofs only [go_sem, ↓reduceIte, Nat.reduceEqDiff, Nat.reduceLT, Nat.reduceAdd, Nat.reduceMul, Nat.reduceLeDiff, Nat.le_refl, Int.natCast_zero, Int.toNat_natCast, Int.reduceToNat, *])
      | (with_reducible refine And.intro ?_ ?_)
      | (refine sCallT_one (c_within _ _ _) ?_; try simp -dsimp -implicitDefEqProofs only [go_sem, ↓reduceIte, Nat.reduceEqDiff, Nat.reduceLT, Nat.reduceAdd, Nat.reduceMul, Nat.reduceLeDiff, Nat.le_refl, Int.natCast_zero, Int.toNat_natCast, Int.reduceToNat, *])
    all_goals first
      | omega
      | (refine ⟨?_, ?_⟩ <;> omega)
      | rfl
      | (simp; done)
      | (rw [no]; clear no yes; simp_all [pickOk]; done) | (rw [no]; clear no yes; simp_all [pickOk]; omega) | (refine yes ?_; clear no yes; simp_all [pickOk]; done) | (refine yes ?_; clear no yes; simp_all [pickOk]; omega)
      | trace_state
  · rw [List.take_length] at hI
    rw [hI] at hd
    simp -dsimp -implicitDefEqProofs only [pick_nil, pick_cons, look_nil, look_cons, dropB_nil, dropB_cons, inD_nil, inD_cons, inE_nil, inE_cons, or_t_l, or_f_l, Nat.reduceBEq, Nat.reduceDiv, Nat.reduceAdd, beq_self_eq_true, Bool.false_eq_true, Bool.or_false, ↓reduceIte, Nat.reduceEqDiff, List.cons_append, List.nil_append]
    simp -dsimp -implicitDefEqProofs only [go_sem, ↓reduceIte, Nat.reduceEqDiff, Nat.reduceLT, Nat.reduceAdd, Nat.reduceMul, Nat.reduceLeDiff, Nat.le_refl, Int.natCast_zero, Int.toNat_natCast, Int.reduceToNat, nlt_len]
    repeat' first
      | (refine Br.intro (fun _ => ?_) (fun _ => ?_) <;> try simp -dsimp -implicitDefEqProofs only [go_sem, ↓reduceIte, Nat.reduceEqDiff, Nat.reduceLT, Nat.reduceAdd, Nat.reduceMul, Nat.reduceLeDiff, Nat.le_refl, Int.natCast_zero, Int.toNat_natCast, Int.reduceToNat, *])
      | (with_reducible refine And.intro ?_ ?_)
    all_goals first
      | omega
      | (simp_all; done)
      | (simp_all; omega)
      | trace_state
end Go.Vc


/-
  Contracts of the functions on picking: the binding chamber, the fewest picks, one pick.
-/
set_option linter.unusedVariables false
set_option linter.unusedSimpArgs false
set_option linter.unnecessarySimpa false
namespace Go.Vc
open Go.Proofs
set_option maxRecDepth 100000
def binding (m : MkM) (l : List (List Int)) (o s : List Int) : Int × Int := if pkCode m l o s = 0 then (if s.length = o.length then (0, 5) else (o.getD s.length 0, 0)) else (0, pkCode m l o s)
theorem c_iCode0 (m : MkM) (l : List (List Int)) (o s : List Int) (h : l.length ≤ 1048576) (h2 : ∀ x ∈ l, x.length ≤ 1048576) (h3 : o.length ≤ 1048576) (h4 : s.length ≤ 1048576) : Fn Try.prog 105 [eMk m, eLk l, eIs o, eIs s, eNil] true (· = eI (pkCode m l o s)) := by
  have := (c_pickCode m l o s [] h h2 h3 h4 (by simp)).subs (args' := [eMk m, eLk l, eIs o, eIs s, eNil]) (.cons (.refl _) (.cons (.refl _) (.cons (.refl _) (.cons (.refl _) (.cons (.nil _) .nil)))))
  rw [pksCode_nil] at this
  exact this
theorem c_iCode00 (m : MkM) (l : List (List Int)) (o : List Int) (h : l.length ≤ 1048576) (h2 : ∀ x ∈ l, x.length ≤ 1048576) (h3 : o.length ≤ 1048576) : Fn Try.prog 105 [eMk m, eLk l, eIs o, eNil, eNil] true (· = eI (pkCode m l o [])) :=
  (c_iCode0 m l o [] h h2 h3 (by simp)).subs (.cons (.refl _) (.cons (.refl _) (.cons (.refl _) (.cons (.nil _) (.cons (.refl _) .nil)))))
theorem c_sCode0 (m : MkM) (l : List (List Int)) (o : List Int) (h : l.length ≤ 1048576) (h2 : ∀ x ∈ l, x.length ≤ 1048576) (h3 : o.length ≤ 1048576) : Fn Try.prog 111 [eMk m, eLk l, eIs o, eNil] true (· = eI (pkCode m l o [])) :=
  (c_l32Code m l o [] h h2 h3 (by simp)).subs (.cons (.refl _) (.cons (.refl _) (.cons (.refl _) (.cons (.nil _) .nil))))
theorem setOk_len {o s : List Int} (h : setOk o s = true) : s.length ≤ o.length := by
  simp only [setOk, Bool.and_eq_true] at h
  have := rises_len (by omega) h.1
  omega
theorem c_sBinding (m : MkM) (l : List (List Int)) (o s : List Int) (h : l.length ≤ 1048576) (h2 : ∀ x ∈ l, x.length ≤ 1048576) (h3 : o.length ≤ 1048576) (h4 : s.length ≤ 1048576) : Fn Try.prog 59 [eMk m, eLk l, eIs o, eIs s] true (· = .tup [eI (binding m l o s).1, eI (binding m l o s).2]) := by
  refine Fn.of_vcN 33 [.tmp 8, .tmp 9] Try.func59 rfl rfl rfl rfl rfl (of_decide_eq_true rfl) ?_
  by_cases hb : pkCode m l o s = 0
  · obtain ⟨k1, k2, k3⟩ := pkCode_zero hb
    have hsl := setOk_len k3
    by_cases he : s.length = o.length
    · have hd : ((s.length : Int) == o.length) = true := by simp [he]
      simp -dsimp -implicitDefEqProofs only [go_sem, ↓reduceIte, Nat.reduceEqDiff, Nat.reduceLT, Nat.reduceAdd, Nat.reduceMul, Nat.reduceLeDiff, Nat.le_refl, Int.natCast_zero, Int.toNat_natCast, Int.reduceToNat]
      repeat' first
        | (refine Br.intro (fun _ => ?_) (fun _ => ?_) <;> try simp -dsimp -implicitDefEqProofs only [go_sem, ↓reduceIte, Nat.reduceEqDiff, Nat.reduceLT, Nat.reduceAdd, Nat.reduceMul, Nat.reduceLeDiff, Nat.le_refl, Int.natCast_zero, Int.toNat_natCast, Int.reduceToNat, *])
        | (with_reducible refine And.intro ?_ ?_)
        | (refine sCallT_one (c_l32Code m l o s h h2 h3 h4) ?_; try simp -dsimp -implicitDefEqProofs only [go_sem, ↓reduceIte, Nat.reduceEqDiff, Nat.reduceLT, Nat.reduceAdd, Nat.reduceMul, Nat.reduceLeDiff, Nat.le_refl, Int.natCast_zero, Int.toNat_natCast, Int.reduceToNat, *])
      all_goals first
        | omega
        | (simp_all [binding]; done)
        | trace_state
    · have hd : ((s.length : Int) == o.length) = false := by simp; omega
      have hi : s.length < o.length := by omega
      have gi := get_some hi
      simp -dsimp -implicitDefEqProofs only [go_sem, ↓reduceIte, Nat.reduceEqDiff, Nat.reduceLT, Nat.reduceAdd, Nat.reduceMul, Nat.reduceLeDiff, Nat.le_refl, Int.natCast_zero, Int.toNat_natCast, Int.reduceToNat]
      repeat' first
        | (refine Br.intro (fun _ => ?_) (fun _ => ?_) <;> try simp -dsimp -implicitDefEqProofs only [go_sem, ↓reduceIte, Nat.reduceEqDiff, Nat.reduceLT, Nat.reduceAdd, Nat.reduceMul, Nat.reduceLeDiff, Nat.le_refl, Int.natCast_zero, Int.toNat_natCast, Int.reduceToNat, *])
        | (with_reducible refine And.intro ?_ ?_)
        | (refine sCallT_one (c_l32Code m l o s h h2 h3 h4) ?_; try simp -dsimp -implicitDefEqProofs only [go_sem, ↓reduceIte, Nat.reduceEqDiff, Nat.reduceLT, Nat.reduceAdd, Nat.reduceMul, Nat.reduceLeDiff, Nat.le_refl, Int.natCast_zero, Int.toNat_natCast, Int.reduceToNat, *])
      all_goals first
        | omega
        | (refine ⟨?_, ?_⟩ <;> omega)
        | (simp_all [binding, List.getD_eq_getElem?_getD]; done)
        | trace_state
  · simp -dsimp -implicitDefEqProofs only [go_sem, ↓reduceIte, Nat.reduceEqDiff, Nat.reduceLT, Nat.reduceAdd, Nat.reduceMul, Nat.reduceLeDiff, Nat.le_refl, Int.natCast_zero, Int.toNat_natCast, Int.reduceToNat]
    repeat' first
      | (refine Br.intro (fun _ => ?_) (fun _ => ?_) <;> try simp -dsimp -implicitDefEqProofs only [go_sem, ↓reduceIte, Nat.reduceEqDiff, Nat.reduceLT, Nat.reduceAdd, Nat.reduceMul, Nat.reduceLeDiff, Nat.le_refl, Int.natCast_zero, Int.toNat_natCast, Int.reduceToNat, *])
      | (with_reducible refine And.intro ?_ ?_)
      | (refine sCallT_one (c_l32Code m l o s h h2 h3 h4) ?_; try simp -dsimp -implicitDefEqProofs only [go_sem, ↓reduceIte, Nat.reduceEqDiff, Nat.reduceLT, Nat.reduceAdd, Nat.reduceMul, Nat.reduceLeDiff, Nat.le_refl, Int.natCast_zero, Int.toNat_natCast, Int.reduceToNat, *])
    all_goals first
      | omega
      | (simp_all [binding]; done)
      | trace_state
theorem c_iBinding (m : MkM) (l : List (List Int)) (o s : List Int) (h : l.length ≤ 1048576) (h2 : ∀ x ∈ l, x.length ≤ 1048576) (h3 : o.length ≤ 1048576) (h4 : s.length ≤ 1048576) : Fn Try.prog 58 [eMk m, eLk l, eIs o, eIs s] true (· = .tup [eI (binding m l o s).1, eI (binding m l o s).2]) := by
  refine Fn.of_vcN 29 [.tmp 8, .tmp 9] Try.func58 rfl rfl rfl rfl rfl (of_decide_eq_true rfl) ?_
  by_cases hb : pkCode m l o s = 0
  · obtain ⟨k1, k2, k3⟩ := pkCode_zero hb
    have hsl := setOk_len k3
    by_cases he : s.length = o.length
    · have hd : ((s.length : Int) == o.length) = true := by simp [he]
      simp -dsimp -implicitDefEqProofs only [go_sem, ↓reduceIte, Nat.reduceEqDiff, Nat.reduceLT, Nat.reduceAdd, Nat.reduceMul, Nat.reduceLeDiff, Nat.le_refl, Int.natCast_zero, Int.toNat_natCast, Int.reduceToNat]
      repeat' first
        | (refine Br.intro (fun _ => ?_) (fun _ => ?_) <;> try simp -dsimp -implicitDefEqProofs only [go_sem, ↓reduceIte, Nat.reduceEqDiff, Nat.reduceLT, Nat.reduceAdd, Nat.reduceMul, Nat.reduceLeDiff, Nat.le_refl, Int.natCast_zero, Int.toNat_natCast, Int.reduceToNat, *])
        | (with_reducible refine And.intro ?_ ?_)
        | (refine sCallT_one (c_iCode0 m l o s h h2 h3 h4) ?_; try simp -dsimp -implicitDefEqProofs only [go_sem, ↓reduceIte, Nat.reduceEqDiff, Nat.reduceLT, Nat.reduceAdd, Nat.reduceMul, Nat.reduceLeDiff, Nat.le_refl, Int.natCast_zero, Int.toNat_natCast, Int.reduceToNat, *])
      all_goals first
        | omega
        | (simp_all [binding]; done)
        | trace_state
    · have hd : ((s.length : Int) == o.length) = false := by simp; omega
      have hi : s.length < o.length := by omega
      have gi := get_some hi
      simp -dsimp -implicitDefEqProofs only [go_sem, ↓reduceIte, Nat.reduceEqDiff, Nat.reduceLT, Nat.reduceAdd, Nat.reduceMul, Nat.reduceLeDiff, Nat.le_refl, Int.natCast_zero, Int.toNat_natCast, Int.reduceToNat]
      repeat' first
        | (refine Br.intro (fun _ => ?_) (fun _ => ?_) <;> try simp -dsimp -implicitDefEqProofs only [go_sem, ↓reduceIte, Nat.reduceEqDiff, Nat.reduceLT, Nat.reduceAdd, Nat.reduceMul, Nat.reduceLeDiff, Nat.le_refl, Int.natCast_zero, Int.toNat_natCast, Int.reduceToNat, *])
        | (with_reducible refine And.intro ?_ ?_)
        | (refine sCallT_one (c_iCode0 m l o s h h2 h3 h4) ?_; try simp -dsimp -implicitDefEqProofs only [go_sem, ↓reduceIte, Nat.reduceEqDiff, Nat.reduceLT, Nat.reduceAdd, Nat.reduceMul, Nat.reduceLeDiff, Nat.le_refl, Int.natCast_zero, Int.toNat_natCast, Int.reduceToNat, *])
      all_goals first
        | omega
        | (refine ⟨?_, ?_⟩ <;> omega)
        | (simp_all [binding, List.getD_eq_getElem?_getD]; done)
        | trace_state
  · simp -dsimp -implicitDefEqProofs only [go_sem, ↓reduceIte, Nat.reduceEqDiff, Nat.reduceLT, Nat.reduceAdd, Nat.reduceMul, Nat.reduceLeDiff, Nat.le_refl, Int.natCast_zero, Int.toNat_natCast, Int.reduceToNat]
    repeat' first
      | (refine Br.intro (fun _ => ?_) (fun _ => ?_) <;> try simp -dsimp -implicitDefEqProofs only [go_sem, ↓reduceIte, Nat.reduceEqDiff, Nat.reduceLT, Nat.reduceAdd, Nat.reduceMul, Nat.reduceLeDiff, Nat.le_refl, Int.natCast_zero, Int.toNat_natCast, Int.reduceToNat, *])
      | (with_reducible refine And.intro ?_ ?_)
      | (refine sCallT_one (c_iCode0 m l o s h h2 h3 h4) ?_; try simp -dsimp -implicitDefEqProofs only [go_sem, ↓reduceIte, Nat.reduceEqDiff, Nat.reduceLT, Nat.reduceAdd, Nat.reduceMul, Nat.reduceLeDiff, Nat.le_refl, Int.natCast_zero, Int.toNat_natCast, Int.reduceToNat, *])
    all_goals first
      | omega
      | (simp_all [binding]; done)
      | trace_state
def fewestL (l : List (List Int)) (o : List Int) : List PkM := o.map fun c => ⟨c, (cset l c).getD 0 0⟩
def fewest (m : MkM) (l : List (List Int)) (o : List Int) : List PkM × Int := if pkCode m l o [] = 0 then (fewestL l o, 0) else ([], pkCode m l o [])
theorem c_sFewest (m : MkM) (l : List (List Int)) (o : List Int) (h : l.length ≤ 1048576) (h2 : ∀ x ∈ l, x.length ≤ 1048576) (h3 : o.length ≤ 1048576) : Fn Try.prog 51 [eMk m, eLk l, eIs o] true (· = .tup [ePs (fewest m l o).1, eI (fewest m l o).2]) := by
  refine Fn.of_vcN 44 [.tmp 6, .tmp 7] Try.func51 rfl rfl rfl rfl rfl (of_decide_eq_true rfl) ?_
  by_cases hb : pkCode m l o [] = 0
  rotate_left
  · simp -dsimp -implicitDefEqProofs only [go_sem, ↓reduceIte, Nat.reduceEqDiff, Nat.reduceLT, Nat.reduceAdd, Nat.reduceMul, Nat.reduceLeDiff, Nat.le_refl, Int.natCast_zero, Int.toNat_natCast, Int.reduceToNat]
    repeat' first
      | (refine Br.intro (fun _ => ?_) (fun _ => ?_) <;> try simp -dsimp -implicitDefEqProofs only [go_sem, ↓reduceIte, Nat.reduceEqDiff, Nat.reduceLT, Nat.reduceAdd, Nat.reduceMul, Nat.reduceLeDiff, Nat.le_refl, Int.natCast_zero, Int.toNat_natCast, Int.reduceToNat, *])
      | (with_reducible refine And.intro ?_ ?_)
      | (refine sCallT_one (c_sCode0 m l o h h2 h3) ?_; try simp -dsimp -implicitDefEqProofs only [go_sem, ↓reduceIte, Nat.reduceEqDiff, Nat.reduceLT, Nat.reduceAdd, Nat.reduceMul, Nat.reduceLeDiff, Nat.le_refl, Int.natCast_zero, Int.toNat_natCast, Int.reduceToNat, *])
    all_goals first
      | omega
      | (simp_all [fewest]; done)
      | trace_state
  obtain ⟨k1, k2, k3⟩ := pkCode_zero hb
  have pk := Pk.of k1 k2
  have n6 := pk.n6
  have hF : fewest m l o = (fewestL l o, 0) := by rw [fewest, if_pos hb]
  have hl : (fewestL l o).length = o.length := by simp [fewestL]
  simp -dsimp -implicitDefEqProofs only [go_sem, ↓reduceIte, Nat.reduceEqDiff, Nat.reduceLT, Nat.reduceAdd, Nat.reduceMul, Nat.reduceLeDiff, Nat.le_refl, Int.natCast_zero, Int.toNat_natCast, Int.reduceToNat]
  repeat' first
    | (refine Br.intro (fun _ => ?_) (fun _ => ?_) <;> try simp -dsimp -implicitDefEqProofs only [go_sem, ↓reduceIte, Nat.reduceEqDiff, Nat.reduceLT, Nat.reduceAdd, Nat.reduceMul, Nat.reduceLeDiff, Nat.le_refl, Int.natCast_zero, Int.toNat_natCast, Int.reduceToNat, *])
    | (with_reducible refine And.intro ?_ ?_)
    | (refine sCallT_one (c_sCode0 m l o h h2 h3) ?_; try simp -dsimp -implicitDefEqProofs only [go_sem, ↓reduceIte, Nat.reduceEqDiff, Nat.reduceLT, Nat.reduceAdd, Nat.reduceMul, Nat.reduceLeDiff, Nat.le_refl, Int.natCast_zero, Int.toNat_natCast, Int.reduceToNat, *])
  all_goals try (first | omega | (simp_all; done))
  refine Later.up [2, 4] [21, 41, 42] [18] o.length (fun _ => True) (fun i => [(10, eI i), (9, .ref 18 0 0 i)]) (fun i => [(18, .row 0 ⟨2, true⟩ true (((fewestL l o).take i).map eP))]) trivial ?_ rfl (fun i hi _ => ?_) (fun _ => ?_)
  · simp -dsimp -implicitDefEqProofs only [go_sem, ↓reduceIte, Nat.reduceEqDiff, Nat.reduceLT, Nat.reduceAdd, Nat.reduceMul, Nat.reduceLeDiff, Nat.le_refl, Int.natCast_zero, Int.toNat_natCast, Int.reduceToNat]
    all_goals simp
  · have gi := get_some hi
    have li := lt_len hi
    have hio := pk.io i hi
    obtain ⟨hc, hce⟩ := pk.cset hio.1 hio.2
    have hst := (pk.st _ hc).1
    have gc := get_some hc
    have g0 := get_some hst
    have hi' : i < (fewestL l o).length := by omega
    have hs := take_map_snoc eP hi'
    have he : (fewestL l o)[i] = ⟨o[i], l[(o[i]).toNat][0]⟩ := by simp [fewestL, hce, List.getD_eq_getElem?_getD, hst]
    rw [he] at hs
    have hm : min i (fewestL l o).length = i := by omega
    clear he hF k1 k2 k3 pk
    simp -dsimp -implicitDefEqProofs only [pick_nil, pick_cons, look_nil, look_cons, dropB_nil, dropB_cons, inD_nil, inD_cons, inE_nil, inE_cons, or_t_l, or_f_l, Nat.reduceBEq, Nat.reduceDiv, Nat.reduceAdd, beq_self_eq_true, Bool.false_eq_true, Bool.or_false, ↓reduceIte, Nat.reduceEqDiff, List.cons_append, List.nil_append]
    simp -dsimp -implicitDefEqProofs only [go_sem, ↓reduceIte, Nat.reduceEqDiff, Nat.reduceLT, Nat.reduceAdd, Nat.reduceMul, Nat.reduceLeDiff, Nat.le_refl, Int.natCast_zero, Int.toNat_natCast, Int.reduceToNat, li, gi, gc, g0, hm]
    repeat' first
      | (refine Br.intro (fun _ => ?_) (fun _ => ?_) <;> try simp -dsimp -implicitDefEqProofs only [go_sem, ↓reduceIte, Nat.reduceEqDiff, Nat.reduceLT, Nat.reduceAdd, Nat.reduceMul, Nat.reduceLeDiff, Nat.le_refl, Int.natCast_zero, Int.toNat_natCast, Int.reduceToNat, *])
      | (with_reducible refine And.intro ?_ ?_)
      | (refine Later.draw mixed rfl ?_; try simp -dsimp -implicitDefEqProofs only [go_sem, ↓reduceIte, Nat.reduceEqDiff, Nat.reduceLT, Nat.reduceAdd, Nat.reduceMul, Nat.reduceLeDiff, Nat.le_refl, Int.natCast_zero, Int.toNat_natCast, Int.reduceToNat, li, gi, gc, g0, hm])
    all_goals first
      | omega
      | (refine ⟨?_, ?_⟩ <;> omega)
      | rfl
      | (simp; done)
      | exact hs
      | (simp_all; done)
      | trace_state
  · have ht : ((fewestL l o).map eP).take o.length = (fewestL l o).map eP := List.take_of_length_le (by simp [hl])
    have hm : min o.length (fewestL l o).length = o.length := by omega
    rw [hF]
    simp -dsimp -implicitDefEqProofs only [pick_nil, pick_cons, look_nil, look_cons, dropB_nil, dropB_cons, inD_nil, inD_cons, inE_nil, inE_cons, or_t_l, or_f_l, Nat.reduceBEq, Nat.reduceDiv, Nat.reduceAdd, beq_self_eq_true, Bool.false_eq_true, Bool.or_false, ↓reduceIte, Nat.reduceEqDiff, List.cons_append, List.nil_append]
    simp -dsimp -implicitDefEqProofs only [go_sem, ↓reduceIte, Nat.reduceEqDiff, Nat.reduceLT, Nat.reduceAdd, Nat.reduceMul, Nat.reduceLeDiff, Nat.le_refl, Int.natCast_zero, Int.toNat_natCast, Int.reduceToNat, nlt_len, ht, hm]
    repeat' (with_reducible refine And.intro ?_ ?_)
    all_goals first
      | omega
      | rfl
      | (simp; done)
      | trace_state
theorem c_iFewest (m : MkM) (l : List (List Int)) (o : List Int) (h : l.length ≤ 1048576) (h2 : ∀ x ∈ l, x.length ≤ 1048576) (h3 : o.length ≤ 1048576) : Fn Try.prog 50 [eMk m, eLk l, eIs o] true (· = .tup [ePs (fewest m l o).1, eI (fewest m l o).2]) := by
  refine Fn.of_vcN 40 [.tmp 6, .tmp 7] Try.func50 rfl rfl rfl rfl rfl (of_decide_eq_true rfl) ?_
  by_cases hb : pkCode m l o [] = 0
  rotate_left
  · simp -dsimp -implicitDefEqProofs only [go_sem, ↓reduceIte, Nat.reduceEqDiff, Nat.reduceLT, Nat.reduceAdd, Nat.reduceMul, Nat.reduceLeDiff, Nat.le_refl, Int.natCast_zero, Int.toNat_natCast, Int.reduceToNat]
    repeat' first
      | (refine Br.intro (fun _ => ?_) (fun _ => ?_) <;> try simp -dsimp -implicitDefEqProofs only [go_sem, ↓reduceIte, Nat.reduceEqDiff, Nat.reduceLT, Nat.reduceAdd, Nat.reduceMul, Nat.reduceLeDiff, Nat.le_refl, Int.natCast_zero, Int.toNat_natCast, Int.reduceToNat, *])
      | (with_reducible refine And.intro ?_ ?_)
      | (refine sCallT_one (c_iCode00 m l o h h2 h3) ?_; try simp -dsimp -implicitDefEqProofs only [go_sem, ↓reduceIte, Nat.reduceEqDiff, Nat.reduceLT, Nat.reduceAdd, Nat.reduceMul, Nat.reduceLeDiff, Nat.le_refl, Int.natCast_zero, Int.toNat_natCast, Int.reduceToNat, *])
    all_goals first
      | omega
      | (simp_all [fewest]; done)
      | trace_state
  obtain ⟨k1, k2, k3⟩ := pkCode_zero hb
  have pk := Pk.of k1 k2
  have n6 := pk.n6
  have hF : fewest m l o = (fewestL l o, 0) := by rw [fewest, if_pos hb]
  have hl : (fewestL l o).length = o.length := by simp [fewestL]
  simp -dsimp -implicitDefEqProofs only [go_sem, ↓reduceIte, Nat.reduceEqDiff, Nat.reduceLT, Nat.reduceAdd, Nat.reduceMul, Nat.reduceLeDiff, Nat.le_refl, Int.natCast_zero, Int.toNat_natCast, Int.reduceToNat]
  repeat' first
    | (refine Br.intro (fun _ => ?_) (fun _ => ?_) <;> try simp -dsimp -implicitDefEqProofs only [go_sem, ↓reduceIte, Nat.reduceEqDiff, Nat.reduceLT, Nat.reduceAdd, Nat.reduceMul, Nat.reduceLeDiff, Nat.le_refl, Int.natCast_zero, Int.toNat_natCast, Int.reduceToNat, *])
    | (with_reducible refine And.intro ?_ ?_)
    | (refine sCallT_one (c_iCode00 m l o h h2 h3) ?_; try simp -dsimp -implicitDefEqProofs only [go_sem, ↓reduceIte, Nat.reduceEqDiff, Nat.reduceLT, Nat.reduceAdd, Nat.reduceMul, Nat.reduceLeDiff, Nat.le_refl, Int.natCast_zero, Int.toNat_natCast, Int.reduceToNat, *])
  all_goals try (first | omega | (simp_all; done))
  refine Later.up [4, 20, 21] [36, 37] [19] o.length (fun _ => True) (fun i => [(22, eI i), (9, .ref 19 0 0 i)]) (fun i => [(19, .row 0 ⟨2, true⟩ true (((fewestL l o).take i).map eP))]) trivial ?_ rfl (fun i hi _ => ?_) (fun _ => ?_)
  · simp -dsimp -implicitDefEqProofs only [go_sem, ↓reduceIte, Nat.reduceEqDiff, Nat.reduceLT, Nat.reduceAdd, Nat.reduceMul, Nat.reduceLeDiff, Nat.le_refl, Int.natCast_zero, Int.toNat_natCast, Int.reduceToNat]
    all_goals simp
  · have gi := get_some hi
    have li := lt_len hi
    have hio := pk.io i hi
    obtain ⟨hc, hce⟩ := pk.cset hio.1 hio.2
    have hst := (pk.st _ hc).1
    have gc := get_some hc
    have g0 := get_some hst
    have hi' : i < (fewestL l o).length := by omega
    have hs := take_map_snoc eP hi'
    have he : (fewestL l o)[i] = ⟨o[i], l[(o[i]).toNat][0]⟩ := by simp [fewestL, hce, List.getD_eq_getElem?_getD, hst]
    rw [he] at hs
    have hm : min i (fewestL l o).length = i := by omega
    clear he hF k1 k2 k3 pk
    simp -dsimp -implicitDefEqProofs only [pick_nil, pick_cons, look_nil, look_cons, dropB_nil, dropB_cons, inD_nil, inD_cons, inE_nil, inE_cons, or_t_l, or_f_l, Nat.reduceBEq, Nat.reduceDiv, Nat.reduceAdd, beq_self_eq_true, Bool.false_eq_true, Bool.or_false, ↓reduceIte, Nat.reduceEqDiff, List.cons_append, List.nil_append]
    simp -dsimp -implicitDefEqProofs only [go_sem, ↓reduceIte, Nat.reduceEqDiff, Nat.reduceLT, Nat.reduceAdd, Nat.reduceMul, Nat.reduceLeDiff, Nat.le_refl, Int.natCast_zero, Int.toNat_natCast, Int.reduceToNat, li, gi, gc, g0, hm]
    repeat' first
      | (refine Br.intro (fun _ => ?_) (fun _ => ?_) <;> try simp -dsimp -implicitDefEqProofs only [go_sem, ↓reduceIte, Nat.reduceEqDiff, Nat.reduceLT, Nat.reduceAdd, Nat.reduceMul, Nat.reduceLeDiff, Nat.le_refl, Int.natCast_zero, Int.toNat_natCast, Int.reduceToNat, *])
      | (with_reducible refine And.intro ?_ ?_)
      | (refine Later.draw mixed rfl ?_; try simp -dsimp -implicitDefEqProofs only [go_sem, ↓reduceIte, Nat.reduceEqDiff, Nat.reduceLT, Nat.reduceAdd, Nat.reduceMul, Nat.reduceLeDiff, Nat.le_refl, Int.natCast_zero, Int.toNat_natCast, Int.reduceToNat, li, gi, gc, g0, hm])
    all_goals first
      | omega
      | (refine ⟨?_, ?_⟩ <;> omega)
      | rfl
      | (simp; done)
      | exact hs
      | (simp_all; done)
      | trace_state
  · have ht : ((fewestL l o).map eP).take o.length = (fewestL l o).map eP := List.take_of_length_le (by simp [hl])
    have hm : min o.length (fewestL l o).length = o.length := by omega
    rw [hF]
    simp -dsimp -implicitDefEqProofs only [pick_nil, pick_cons, look_nil, look_cons, dropB_nil, dropB_cons, inD_nil, inD_cons, inE_nil, inE_cons, or_t_l, or_f_l, Nat.reduceBEq, Nat.reduceDiv, Nat.reduceAdd, beq_self_eq_true, Bool.false_eq_true, Bool.or_false, ↓reduceIte, Nat.reduceEqDiff, List.cons_append, List.nil_append]
    simp -dsimp -implicitDefEqProofs only [go_sem, ↓reduceIte, Nat.reduceEqDiff, Nat.reduceLT, Nat.reduceAdd, Nat.reduceMul, Nat.reduceLeDiff, Nat.le_refl, Int.natCast_zero, Int.toNat_natCast, Int.reduceToNat, nlt_len, ht, hm]
    repeat' (with_reducible refine And.intro ?_ ?_)
    all_goals first
      | omega
      | rfl
      | (simp; done)
      | trace_state
end Go.Vc


/-
  Contracts of the functions on picking: one pick.
-/
set_option linter.unusedVariables false
set_option linter.unusedSimpArgs false
set_option linter.unnecessarySimpa false
namespace Go.Vc
open Go.Proofs
set_option maxRecDepth 100000
theorem pickOk_num {m : MkM} {o : List Int} {p : PkM} (hch : (o.length : Int) = m.chambers) (h : pickOk m p = true) : 0 ≤ p.chamber ∧ p.chamber < o.length := by
  simp [pickOk, isIn] at h; omega
theorem Pk.set {m : MkM} {l : List (List Int)} {o : List Int} (pk : Pk m l o) {c : Int} (h0 : 0 ≤ c) (h1 : c < o.length) :
    ∃ hc : c.toNat < l.length, Go.Vc.cset l c = l[c.toNat] ∧ 0 < l[c.toNat].length ∧ lastOf (Go.Vc.cset l c) = l[c.toNat][l[c.toNat].length - 1]! := by
  obtain ⟨hc, he⟩ := pk.cset h0 h1
  have hst := (pk.st _ hc).1
  refine ⟨hc, he, hst, ?_⟩
  rw [he, lastOf, getElem!_pos _ _ (by omega)]
  simp [List.getD_eq_getElem?_getD, show l[c.toNat].length - 1 < l[c.toNat].length by omega]
theorem pick_cases {m : MkM} {l : List (List Int)} {o : List Int} {n : Nat} {p : PkM} (pk : Pk m l o) (hn : n ≤ o.length) (hp : 0 ≤ p.chamber ∧ p.chamber < o.length) :
    (n = o.length ∧ pickN l o n p = n ∧ hit l o n p = false) ∨ (∃ hlt : n < o.length, o[n] ≠ p.chamber ∧ pickN l o n p = n ∧ hit l o n p = false) ∨
    ∃ hlt : n < o.length, o[n] = p.chamber ∧ ∃ hc : p.chamber.toNat < l.length, 0 < l[p.chamber.toNat].length ∧
      ((has l[p.chamber.toNat] p.depth = true ∧ pickN l o n p = n + 1 ∧ hit l o n p = true) ∨
       (has l[p.chamber.toNat] p.depth = false ∧ p.depth > l[p.chamber.toNat][l[p.chamber.toNat].length - 1]! ∧ pickN l o n p = 0 ∧ hit l o n p = false) ∨
       (has l[p.chamber.toNat] p.depth = false ∧ ¬ p.depth > l[p.chamber.toNat][l[p.chamber.toNat].length - 1]! ∧ pickN l o n p = n ∧ hit l o n p = false)) := by
  rcases Nat.lt_or_ge n o.length with hlt | hge
  rotate_left
  · have : n = o.length := by omega
    exact .inl ⟨this, by simp [pickN, this], by simp [hit, this]⟩
  have gD : o.getD n 0 = o[n] := by simp [List.getD_eq_getElem?_getD, hlt]
  have hne : n ≠ o.length := by omega
  by_cases hc : o[n] = p.chamber
  rotate_left
  · exact .inr (.inl ⟨hlt, hc, by rw [pickN, gD, if_pos (.inr hc)], by rw [hit, gD, decide_eq_true (.inr hc)]; rfl⟩)
  obtain ⟨hcl, hce, hst, hla⟩ := pk.set hp.1 hp.2
  refine .inr (.inr ⟨hlt, hc, hcl, hst, ?_⟩)
  have hno : ¬ (n = o.length ∨ o[n] ≠ p.chamber) := by rintro (h | h) <;> contradiction
  have e1 : pickN l o n p = if has l[p.chamber.toNat] p.depth then n + 1 else if p.depth > l[p.chamber.toNat][l[p.chamber.toNat].length - 1]! then 0 else n := by
    rw [pickN, gD, if_neg hno, hla, hce]
  have e2 : hit l o n p = has l[p.chamber.toNat] p.depth := by rw [hit, gD, decide_eq_false hno, hce]; rfl
  rw [e1, e2]
  rcases has l[p.chamber.toNat] p.depth with _ | _
  · by_cases h3 : p.depth > l[p.chamber.toNat][l[p.chamber.toNat].length - 1]!
    · exact .inr (.inl ⟨rfl, h3, by rw [if_neg (by decide), if_pos h3], rfl⟩)
    · exact .inr (.inr ⟨rfl, h3, by rw [if_neg (by decide), if_neg h3], rfl⟩)
  · exact .inl ⟨rfl, rfl, rfl⟩
theorem c_l32Once (m : MkM) (l : List (List Int)) (o : List Int) (n : Nat) (p : PkM) (pk : Pk m l o) (h2 : ∀ x ∈ l, x.length ≤ 1048576) (hn : n ≤ o.length) (hp : 0 ≤ p.chamber ∧ p.chamber < o.length) :
    Fn Try.prog 104 [eLk l, eIs o, eI n, eP p] true (· = eI (pickN l o n p)) := by
  refine Fn.of_vcN 48 [.tmp 8] Try.func104 rfl rfl rfl rfl rfl (of_decide_eq_true rfl) ?_
  have n6 := pk.n6
  rcases Nat.lt_or_ge n o.length with hlt | hge
  rotate_left
  · have : n = o.length := by omega
    subst this
    have hN : pickN l o o.length p = o.length := by simp [pickN]
    rw [hN]
    clear hN pk
    simp -dsimp -implicitDefEqProofs only [go_sem, ↓reduceIte, Nat.reduceEqDiff, Nat.reduceLT, Nat.reduceAdd, Nat.reduceMul, Nat.reduceLeDiff, Nat.le_refl, Int.natCast_zero, Int.toNat_natCast, Int.reduceToNat]
    repeat' first
      | (refine Br.intro (fun _ => ?_) (fun _ => ?_) <;> try simp -dsimp -implicitDefEqProofs only [go_sem, ↓reduceIte, Nat.reduceEqDiff, Nat.reduceLT, Nat.reduceAdd, Nat.reduceMul, Nat.reduceLeDiff, Nat.le_refl, Int.natCast_zero, Int.toNat_natCast, Int.reduceToNat, *])
      | (with_reducible refine And.intro ?_ ?_)
      | (refine Later.draw mixed rfl ?_; try simp -dsimp -implicitDefEqProofs only [go_sem, ↓reduceIte, Nat.reduceEqDiff, Nat.reduceLT, Nat.reduceAdd, Nat.reduceMul, Nat.reduceLeDiff, Nat.le_refl, Int.natCast_zero, Int.toNat_natCast, Int.reduceToNat, *])
    all_goals first
      | omega
      | rfl
      | (simp_all; done)
      | trace_state
  have hd : ((n : Int) == o.length) = false := by simp; omega
  have gn := get_some hlt
  have gD : o.getD n 0 = o[n] := by simp [List.getD_eq_getElem?_getD, hlt]
  by_cases hc : o[n] = p.chamber
  rotate_left
  · have hN : pickN l o n p = n := by
      rw [pickN, if_pos (.inr (by rw [gD]; exact hc))]
    have hne : (o[n] != p.chamber) = true := by simp [hc]
    rw [hN]
    clear hN pk
    simp -dsimp -implicitDefEqProofs only [go_sem, ↓reduceIte, Nat.reduceEqDiff, Nat.reduceLT, Nat.reduceAdd, Nat.reduceMul, Nat.reduceLeDiff, Nat.le_refl, Int.natCast_zero, Int.toNat_natCast, Int.reduceToNat, hd, gn, hne]
    repeat' first
      | (refine Br.intro (fun _ => ?_) (fun _ => ?_) <;> try simp -dsimp -implicitDefEqProofs only [go_sem, ↓reduceIte, Nat.reduceEqDiff, Nat.reduceLT, Nat.reduceAdd, Nat.reduceMul, Nat.reduceLeDiff, Nat.le_refl, Int.natCast_zero, Int.toNat_natCast, Int.reduceToNat, *])
      | (with_reducible refine And.intro ?_ ?_)
      | (refine Later.draw mixed rfl ?_; try simp -dsimp -implicitDefEqProofs only [go_sem, ↓reduceIte, Nat.reduceEqDiff, Nat.reduceLT, Nat.reduceAdd, Nat.reduceMul, Nat.reduceLeDiff, Nat.le_refl, Int.natCast_zero, Int.toNat_natCast, Int.reduceToNat, *])
    all_goals first
      | omega
      | rfl
      | (simp_all; done)
      | trace_state
  obtain ⟨hcl, hce, hst, hla⟩ := pk.set hp.1 hp.2
  have hne : (o[n] != p.chamber) = false := by simp [hc]
  have gc := get_some hcl
  have hlt2 : l[p.chamber.toNat].length - 1 < l[p.chamber.toNat].length := by omega
  have gL : l[p.chamber.toNat][((l[p.chamber.toNat].length : Int) - 1).toNat]? = some l[p.chamber.toNat][l[p.chamber.toNat].length - 1] := by rw [pred_toNat hst]; exact get_some hlt2
  have hx := h2 _ (List.getElem_mem hcl)
  have hN : pickN l o n p = if has l[p.chamber.toNat] p.depth then n + 1 else if p.depth > l[p.chamber.toNat][l[p.chamber.toNat].length - 1] then 0 else n := by
    rw [pickN, if_neg (by rw [gD]; simp [hc]; omega), hla, hce, getElem!_pos (l[p.chamber.toNat]) (l[p.chamber.toNat].length - 1) hlt2]
  clear hla hce pk
  generalize l[p.chamber.toNat] = z at *
  rw [hN]
  clear hN
  simp -dsimp -implicitDefEqProofs only [go_sem, ↓reduceIte, Nat.reduceEqDiff, Nat.reduceLT, Nat.reduceAdd, Nat.reduceMul, Nat.reduceLeDiff, Nat.le_refl, Int.natCast_zero, Int.toNat_natCast, Int.reduceToNat, hd, gn, hne, gc, gL]
  repeat' first
    | (refine Br.intro (fun _ => ?_) (fun _ => ?_) <;> try simp -dsimp -implicitDefEqProofs only [go_sem, ↓reduceIte, Nat.reduceEqDiff, Nat.reduceLT, Nat.reduceAdd, Nat.reduceMul, Nat.reduceLeDiff, Nat.le_refl, Int.natCast_zero, Int.toNat_natCast, Int.reduceToNat, *])
    | (with_reducible refine And.intro ?_ ?_)
    | (refine Later.draw mixed rfl ?_; try simp -dsimp -implicitDefEqProofs only [go_sem, ↓reduceIte, Nat.reduceEqDiff, Nat.reduceLT, Nat.reduceAdd, Nat.reduceMul, Nat.reduceLeDiff, Nat.le_refl, Int.natCast_zero, Int.toNat_natCast, Int.reduceToNat, *])
    | (refine sCallT_one (c_l01Has z p.depth hx) ?_; try simp -dsimp -implicitDefEqProofs only [go_sem, ↓reduceIte, Nat.reduceEqDiff, Nat.reduceLT, Nat.reduceAdd, Nat.reduceMul, Nat.reduceLeDiff, Nat.le_refl, Int.natCast_zero, Int.toNat_natCast, Int.reduceToNat, *])
    | (refine sCallX_one (c_l01Has z p.depth hx) ?_; try simp -dsimp -implicitDefEqProofs only [go_sem, ↓reduceIte, Nat.reduceEqDiff, Nat.reduceLT, Nat.reduceAdd, Nat.reduceMul, Nat.reduceLeDiff, Nat.le_refl, Int.natCast_zero, Int.toNat_natCast, Int.reduceToNat, *])
  all_goals first
    | omega
    | rfl
    | (refine ⟨?_, ?_⟩ <;> omega)
    | (rename_i hx1; rw [if_neg (of_decide_eq_false hx1)]; done)
    | (rename_i hx1; rw [if_pos (of_decide_eq_true hx1)]; done)
    | (simp_all; done)
    | (simp_all; omega)
    | trace_state
def pickOnce (m : MkM) (l : List (List Int)) (o s : List Int) (p : PkM) : List Int × Int := if pksCode m l o s [p] = 0 then (rowsL (o.take (pickN l o s.length p)), 0) else ([], pksCode m l o s [p])
theorem pksCode_one (m : MkM) (l : List (List Int)) (o s : List Int) (p : PkM) : pksCode m l o s [p] = if pkCode m l o s = 0 then (if pickOk m p then 0 else 2) else pkCode m l o s := by
  unfold pksCode; simp
theorem Pk.nn {m : MkM} {l : List (List Int)} {o : List Int} (pk : Pk m l o) (n : Nat) : ∀ x ∈ o.take n, 0 ≤ x := by
  intro x hx
  obtain ⟨i, hi, rfl⟩ := List.getElem_of_mem (List.mem_of_mem_take hx)
  exact (pk.io i hi).1
theorem c_sPickOnce (m : MkM) (l : List (List Int)) (o s : List Int) (p : PkM) (h : l.length ≤ 1048576) (h2 : ∀ x ∈ l, x.length ≤ 1048576) (h3 : o.length ≤ 1048576) (h4 : s.length ≤ 1048576) :
    Fn Try.prog 56 [eMk m, eLk l, eIs o, eIs s, eP p] true (· = .tup [eIs (pickOnce m l o s p).1, eI (pickOnce m l o s p).2]) := by
  refine Fn.of_vcN 38 [.tmp 10, .tmp 11] Try.func56 rfl rfl rfl rfl rfl (of_decide_eq_true rfl) ?_
  have hone := pksCode_one m l o s p
  by_cases hb : pkCode m l o s = 0
  rotate_left
  · rw [if_neg hb] at hone
    have hF : pickOnce m l o s p = ([], pkCode m l o s) := by rw [pickOnce, hone, if_neg hb]
    rw [hF]
    clear hF hone
    simp -dsimp -implicitDefEqProofs only [go_sem, ↓reduceIte, Nat.reduceEqDiff, Nat.reduceLT, Nat.reduceAdd, Nat.reduceMul, Nat.reduceLeDiff, Nat.le_refl, Int.natCast_zero, Int.toNat_natCast, Int.reduceToNat]
    repeat' first
      | (refine Br.intro (fun _ => ?_) (fun _ => ?_) <;> try simp -dsimp -implicitDefEqProofs only [go_sem, ↓reduceIte, Nat.reduceEqDiff, Nat.reduceLT, Nat.reduceAdd, Nat.reduceMul, Nat.reduceLeDiff, Nat.le_refl, Int.natCast_zero, Int.toNat_natCast, Int.reduceToNat, *])
      | (with_reducible refine And.intro ?_ ?_)
      | (refine sCallT_one (c_l32Code m l o s h h2 h3 h4) ?_; try simp -dsimp -implicitDefEqProofs only [go_sem, ↓reduceIte, Nat.reduceEqDiff, Nat.reduceLT, Nat.reduceAdd, Nat.reduceMul, Nat.reduceLeDiff, Nat.le_refl, Int.natCast_zero, Int.toNat_natCast, Int.reduceToNat, *])
    all_goals first
      | omega
      | (simp_all; done)
      | trace_state
  rw [if_pos hb] at hone
  obtain ⟨k1, k2, k3⟩ := pkCode_zero hb
  have hk := isLk_mk k1
  have pk := Pk.of k1 k2
  have n6 := pk.n6
  have hsl := setOk_len k3
  rcases hp : pickOk m p with _ | _
  · rw [hp] at hone
    have hF : pickOnce m l o s p = ([], 2) := by rw [pickOnce, hone]; rfl
    rw [hF]
    clear hF hone
    simp -dsimp -implicitDefEqProofs only [go_sem, ↓reduceIte, Nat.reduceEqDiff, Nat.reduceLT, Nat.reduceAdd, Nat.reduceMul, Nat.reduceLeDiff, Nat.le_refl, Int.natCast_zero, Int.toNat_natCast, Int.reduceToNat]
    repeat' first
      | (refine Br.intro (fun _ => ?_) (fun _ => ?_) <;> try simp -dsimp -implicitDefEqProofs only [go_sem, ↓reduceIte, Nat.reduceEqDiff, Nat.reduceLT, Nat.reduceAdd, Nat.reduceMul, Nat.reduceLeDiff, Nat.le_refl, Int.natCast_zero, Int.toNat_natCast, Int.reduceToNat, *])
      | (with_reducible refine And.intro ?_ ?_)
      | (refine sCallT_one (c_l32Code m l o s h h2 h3 h4) ?_; try simp -dsimp -implicitDefEqProofs only [go_sem, ↓reduceIte, Nat.reduceEqDiff, Nat.reduceLT, Nat.reduceAdd, Nat.reduceMul, Nat.reduceLeDiff, Nat.le_refl, Int.natCast_zero, Int.toNat_natCast, Int.reduceToNat, *])
      | (refine sCallT_one (c_l32Pick m p hk) ?_; try simp -dsimp -implicitDefEqProofs only [go_sem, ↓reduceIte, Nat.reduceEqDiff, Nat.reduceLT, Nat.reduceAdd, Nat.reduceMul, Nat.reduceLeDiff, Nat.le_refl, Int.natCast_zero, Int.toNat_natCast, Int.reduceToNat, *])
    all_goals first
      | omega
      | (simp_all; done)
      | trace_state
  rw [hp] at hone
  have hpn := pickOk_num pk.ch hp
  have hF : pickOnce m l o s p = (rowsL (o.take (pickN l o s.length p)), 0) := by rw [pickOnce, hone]; rfl
  have hN := pickN_le l o s.length p hsl
  have hnn := pk.nn (pickN l o s.length p)
  rw [hF]
  clear hF hone
  simp -dsimp -implicitDefEqProofs only [go_sem, ↓reduceIte, Nat.reduceEqDiff, Nat.reduceLT, Nat.reduceAdd, Nat.reduceMul, Nat.reduceLeDiff, Nat.le_refl, Int.natCast_zero, Int.toNat_natCast, Int.reduceToNat]
  repeat' first
    | (refine Br.intro (fun _ => ?_) (fun _ => ?_) <;> try simp -dsimp -implicitDefEqProofs only [go_sem, ↓reduceIte, Nat.reduceEqDiff, Nat.reduceLT, Nat.reduceAdd, Nat.reduceMul, Nat.reduceLeDiff, Nat.le_refl, Int.natCast_zero, Int.toNat_natCast, Int.reduceToNat, *])
    | (with_reducible refine And.intro ?_ ?_)
    | (refine sCallT_one (c_l32Code m l o s h h2 h3 h4) ?_; try simp -dsimp -implicitDefEqProofs only [go_sem, ↓reduceIte, Nat.reduceEqDiff, Nat.reduceLT, Nat.reduceAdd, Nat.reduceMul, Nat.reduceLeDiff, Nat.le_refl, Int.natCast_zero, Int.toNat_natCast, Int.reduceToNat, *])
    | (refine sCallT_one (c_l32Pick m p hk) ?_; try simp -dsimp -implicitDefEqProofs only [go_sem, ↓reduceIte, Nat.reduceEqDiff, Nat.reduceLT, Nat.reduceAdd, Nat.reduceMul, Nat.reduceLeDiff, Nat.le_refl, Int.natCast_zero, Int.toNat_natCast, Int.reduceToNat, *])
    | (refine sCallT_one (c_l32Once m l o s.length p pk h2 hsl hpn) ?_; try simp -dsimp -implicitDefEqProofs only [go_sem, ↓reduceIte, Nat.reduceEqDiff, Nat.reduceLT, Nat.reduceAdd, Nat.reduceMul, Nat.reduceLeDiff, Nat.le_refl, Int.natCast_zero, Int.toNat_natCast, Int.reduceToNat, *])
    | (rw [← List.map_take]; refine sCallT_one (c_l18Different (o.take (pickN l o s.length p)) (by simp; omega) hnn) ?_; try simp -dsimp -implicitDefEqProofs only [go_sem, ↓reduceIte, Nat.reduceEqDiff, Nat.reduceLT, Nat.reduceAdd, Nat.reduceMul, Nat.reduceLeDiff, Nat.le_refl, Int.natCast_zero, Int.toNat_natCast, Int.reduceToNat, *])
  all_goals first
    | omega
    | (refine ⟨?_, ?_⟩ <;> omega)
    | (simp_all; done)
    | trace_state
set_option maxHeartbeats 4000000 in
theorem c_iPickOnce (m : MkM) (l : List (List Int)) (o s : List Int) (p : PkM) (h : l.length ≤ 1048576) (h2 : ∀ x ∈ l, x.length ≤ 1048576) (h3 : o.length ≤ 1048576) (h4 : s.length ≤ 1048576) :
    Fn Try.prog 55 [eMk m, eLk l, eIs o, eIs s, eP p] true (· = .tup [eIs (pickOnce m l o s p).1, eI (pickOnce m l o s p).2]) := by
  refine Fn.of_vcN 38 [.tmp 10, .tmp 11] Try.func55 rfl rfl rfl rfl rfl (of_decide_eq_true rfl) ?_
  have hcode := c_pickCode m l o s [p] h h2 h3 h4 (by simp)
  by_cases hb : pksCode m l o s [p] = 0
  rotate_left
  · have hF : pickOnce m l o s p = ([], pksCode m l o s [p]) := by rw [pickOnce, if_neg hb]
    rw [hF]
    clear hF
    simp -dsimp -implicitDefEqProofs only [go_sem, ↓reduceIte, Nat.reduceEqDiff, Nat.reduceLT, Nat.reduceAdd, Nat.reduceMul, Nat.reduceLeDiff, Nat.le_refl, Int.natCast_zero, Int.toNat_natCast, Int.reduceToNat]
    repeat' first
      | (refine Br.intro (fun _ => ?_) (fun _ => ?_) <;> try simp -dsimp -implicitDefEqProofs only [go_sem, ↓reduceIte, Nat.reduceEqDiff, Nat.reduceLT, Nat.reduceAdd, Nat.reduceMul, Nat.reduceLeDiff, Nat.le_refl, Int.natCast_zero, Int.toNat_natCast, Int.reduceToNat, *])
      | (with_reducible refine And.intro ?_ ?_)
      | (refine sCallT_one (hcode) ?_; try simp -dsimp -implicitDefEqProofs only [go_sem, ↓reduceIte, Nat.reduceEqDiff, Nat.reduceLT, Nat.reduceAdd, Nat.reduceMul, Nat.reduceLeDiff, Nat.le_refl, Int.natCast_zero, Int.toNat_natCast, Int.reduceToNat, *])
    all_goals first
      | omega
      | (simp_all; done)
      | trace_state
  have hone := pksCode_one m l o s p
  have hb2 : pkCode m l o s = 0 := by
    rw [hb] at hone
    by_cases h9 : pkCode m l o s = 0
    · exact h9
    · rw [if_neg h9] at hone; omega
  rw [hb, if_pos hb2] at hone
  obtain ⟨k1, k2, k3⟩ := pkCode_zero hb2
  have hk := isLk_mk k1
  have pk := Pk.of k1 k2
  have n6 := pk.n6
  have hsl := setOk_len k3
  have hp : pickOk m p = true := by
    rcases hp : pickOk m p with _ | _
    · rw [hp] at hone; simp at hone
    · rfl
  have hpn := pickOk_num pk.ch hp
  have hF : pickOnce m l o s p = (rowsL (o.take (pickN l o s.length p)), 0) := by rw [pickOnce, if_pos hb]
  have hN := pickN_le l o s.length p hsl
  rw [hF]
  clear hF hone
  simp -dsimp -implicitDefEqProofs only [go_sem, ↓reduceIte, Nat.reduceEqDiff, Nat.reduceLT, Nat.reduceAdd, Nat.reduceMul, Nat.reduceLeDiff, Nat.le_refl, Int.natCast_zero, Int.toNat_natCast, Int.reduceToNat]
  repeat' first
    | (refine Br.intro (fun _ => ?_) (fun _ => ?_) <;> try simp -dsimp -implicitDefEqProofs only [go_sem, ↓reduceIte, Nat.reduceEqDiff, Nat.reduceLT, Nat.reduceAdd, Nat.reduceMul, Nat.reduceLeDiff, Nat.le_refl, Int.natCast_zero, Int.toNat_natCast, Int.reduceToNat, *])
    | (with_reducible refine And.intro ?_ ?_)
    | (refine sCallT_one (hcode) ?_; try simp -dsimp -implicitDefEqProofs only [go_sem, ↓reduceIte, Nat.reduceEqDiff, Nat.reduceLT, Nat.reduceAdd, Nat.reduceMul, Nat.reduceLeDiff, Nat.le_refl, Int.natCast_zero, Int.toNat_natCast, Int.reduceToNat, *])
    | (refine Later.draw mixed rfl ?_; try simp -dsimp -implicitDefEqProofs only [go_sem, ↓reduceIte, Nat.reduceEqDiff, Nat.reduceLT, Nat.reduceAdd, Nat.reduceMul, Nat.reduceLeDiff, Nat.le_refl, Int.natCast_zero, Int.toNat_natCast, Int.reduceToNat, *])
  all_goals try (first | omega | (refine ⟨?_, ?_⟩ <;> omega) | rfl | (simp_all; done))
  rcases pick_cases pk hsl hpn with ⟨q1, q2, q3⟩ | ⟨hlt, q1, q2, q3⟩ | ⟨hlt, q1, hcl, hst, q⟩
  · rw [q2]
    have hd : ((s.length : Int) == o.length) = true := by simp [q1]
    have nle : (s.length : Int) ≤ o.length := by omega
    clear q1 q2 q3 hb hb2 k1 k2 k3 pk hp hcode hN
    refine sCallT_inl 500000 84 [.tmp 4] Try.func112 rfl rfl rfl rfl rfl (by exact of_decide_eq_true rfl) ?_
    simp -dsimp -implicitDefEqProofs only [go_sem, ↓reduceIte, Nat.reduceEqDiff, Nat.reduceLT, Nat.reduceAdd, Nat.reduceMul, Nat.reduceLeDiff, Nat.le_refl, Int.natCast_zero, Int.toNat_natCast, Int.reduceToNat, hd]
    ((repeat' (first | (refine Br.intro (fun _ => ?_) (fun _ => ?_) <;> try simp -dsimp -implicitDefEqProofs only [go_sem, ↓reduceIte, Nat.reduceEqDiff, Nat.reduceLT, Nat.reduceAdd, Nat.reduceMul, Nat.reduceLeDiff, Nat.le_refl, Int.natCast_zero, Int.toNat_natCast, Int.reduceToNat, *]) | (with_reducible refine And.intro ?_ ?_) | (refine Later.draw mixed rfl ?_; try simp -dsimp -implicitDefEqProofs only [go_sem, ↓reduceIte, Nat.reduceEqDiff, Nat.reduceLT, Nat.reduceAdd, Nat.reduceMul, Nat.reduceLeDiff, Nat.le_refl, Int.natCast_zero, Int.toNat_natCast, Int.reduceToNat, *]) | (refine sCallT_one (c_Contains z p.depth hx) ?_; try simp -dsimp -implicitDefEqProofs only [go_sem, ↓reduceIte, Nat.reduceEqDiff, Nat.reduceLT, Nat.reduceAdd, Nat.reduceMul, Nat.reduceLeDiff, Nat.le_refl, Int.natCast_zero, Int.toNat_natCast, Int.reduceToNat, *]))); all_goals try (first | omega | (refine ⟨?_, ?_⟩ <;> omega) | (exact rfl) | (simp; done) | (simp; omega)))
    refine sCallT_inl 600000 13 [.tmp 2] Try.func108 rfl rfl rfl rfl rfl (by exact of_decide_eq_true rfl) ?_
    simp -dsimp -implicitDefEqProofs only [go_sem, ↓reduceIte, Nat.reduceEqDiff, Nat.reduceLT, Nat.reduceAdd, Nat.reduceMul, Nat.reduceLeDiff, Nat.le_refl, Int.natCast_zero, Int.toNat_natCast, Int.reduceToNat]
    ((repeat' (first | (refine Br.intro (fun _ => ?_) (fun _ => ?_) <;> try simp -dsimp -implicitDefEqProofs only [go_sem, ↓reduceIte, Nat.reduceEqDiff, Nat.reduceLT, Nat.reduceAdd, Nat.reduceMul, Nat.reduceLeDiff, Nat.le_refl, Int.natCast_zero, Int.toNat_natCast, Int.reduceToNat, *]) | (with_reducible refine And.intro ?_ ?_) | (refine Later.draw mixed rfl ?_; try simp -dsimp -implicitDefEqProofs only [go_sem, ↓reduceIte, Nat.reduceEqDiff, Nat.reduceLT, Nat.reduceAdd, Nat.reduceMul, Nat.reduceLeDiff, Nat.le_refl, Int.natCast_zero, Int.toNat_natCast, Int.reduceToNat, *]) | (rw [← List.map_take]; refine sCallX_one (c_rowsOf (o.take s.length) (by simp; omega)) ?_; try simp -dsimp -implicitDefEqProofs only [go_sem, ↓reduceIte, Nat.reduceEqDiff, Nat.reduceLT, Nat.reduceAdd, Nat.reduceMul, Nat.reduceLeDiff, Nat.le_refl, Int.natCast_zero, Int.toNat_natCast, Int.reduceToNat, *]) | (refine sCallX_one (c_rowsOf [] (by simp)) ?_; try simp -dsimp -implicitDefEqProofs only [go_sem, ↓reduceIte, Nat.reduceEqDiff, Nat.reduceLT, Nat.reduceAdd, Nat.reduceMul, Nat.reduceLeDiff, Nat.le_refl, Int.natCast_zero, Int.toNat_natCast, Int.reduceToNat, *]))); all_goals (first | omega | (refine ⟨?_, ?_⟩ <;> omega) | (exact rfl) | (simp; done) | (simp; omega) | trace_state))
  · rw [q2]
    have hd : ((s.length : Int) == o.length) = false := by simp; omega
    have gn := get_some hlt
    have hne : (o[s.length] != p.chamber) = true := by simp [q1]
    clear q1 q2 q3 hb hb2 k1 k2 k3 pk hp hcode hN
    refine sCallT_inl 500000 84 [.tmp 4] Try.func112 rfl rfl rfl rfl rfl (by exact of_decide_eq_true rfl) ?_
    simp -dsimp -implicitDefEqProofs only [go_sem, ↓reduceIte, Nat.reduceEqDiff, Nat.reduceLT, Nat.reduceAdd, Nat.reduceMul, Nat.reduceLeDiff, Nat.le_refl, Int.natCast_zero, Int.toNat_natCast, Int.reduceToNat, hd, gn, hne]
    ((repeat' (first | (refine Br.intro (fun _ => ?_) (fun _ => ?_) <;> try simp -dsimp -implicitDefEqProofs only [go_sem, ↓reduceIte, Nat.reduceEqDiff, Nat.reduceLT, Nat.reduceAdd, Nat.reduceMul, Nat.reduceLeDiff, Nat.le_refl, Int.natCast_zero, Int.toNat_natCast, Int.reduceToNat, *]) | (with_reducible refine And.intro ?_ ?_) | (refine Later.draw mixed rfl ?_; try simp -dsimp -implicitDefEqProofs only [go_sem, ↓reduceIte, Nat.reduceEqDiff, Nat.reduceLT, Nat.reduceAdd, Nat.reduceMul, Nat.reduceLeDiff, Nat.le_refl, Int.natCast_zero, Int.toNat_natCast, Int.reduceToNat, *]) | (refine sCallT_one (c_Contains z p.depth hx) ?_; try simp -dsimp -implicitDefEqProofs only [go_sem, ↓reduceIte, Nat.reduceEqDiff, Nat.reduceLT, Nat.reduceAdd, Nat.reduceMul, Nat.reduceLeDiff, Nat.le_refl, Int.natCast_zero, Int.toNat_natCast, Int.reduceToNat, *]))); all_goals try (first | omega | (refine ⟨?_, ?_⟩ <;> omega) | (exact rfl) | (simp; done) | (simp; omega)))
    refine sCallT_inl 600000 13 [.tmp 2] Try.func108 rfl rfl rfl rfl rfl (by exact of_decide_eq_true rfl) ?_
    simp -dsimp -implicitDefEqProofs only [go_sem, ↓reduceIte, Nat.reduceEqDiff, Nat.reduceLT, Nat.reduceAdd, Nat.reduceMul, Nat.reduceLeDiff, Nat.le_refl, Int.natCast_zero, Int.toNat_natCast, Int.reduceToNat]
    ((repeat' (first | (refine Br.intro (fun _ => ?_) (fun _ => ?_) <;> try simp -dsimp -implicitDefEqProofs only [go_sem, ↓reduceIte, Nat.reduceEqDiff, Nat.reduceLT, Nat.reduceAdd, Nat.reduceMul, Nat.reduceLeDiff, Nat.le_refl, Int.natCast_zero, Int.toNat_natCast, Int.reduceToNat, *]) | (with_reducible refine And.intro ?_ ?_) | (refine Later.draw mixed rfl ?_; try simp -dsimp -implicitDefEqProofs only [go_sem, ↓reduceIte, Nat.reduceEqDiff, Nat.reduceLT, Nat.reduceAdd, Nat.reduceMul, Nat.reduceLeDiff, Nat.le_refl, Int.natCast_zero, Int.toNat_natCast, Int.reduceToNat, *]) | (rw [← List.map_take]; refine sCallX_one (c_rowsOf (o.take s.length) (by simp; omega)) ?_; try simp -dsimp -implicitDefEqProofs only [go_sem, ↓reduceIte, Nat.reduceEqDiff, Nat.reduceLT, Nat.reduceAdd, Nat.reduceMul, Nat.reduceLeDiff, Nat.le_refl, Int.natCast_zero, Int.toNat_natCast, Int.reduceToNat, *]) | (refine sCallX_one (c_rowsOf [] (by simp)) ?_; try simp -dsimp -implicitDefEqProofs only [go_sem, ↓reduceIte, Nat.reduceEqDiff, Nat.reduceLT, Nat.reduceAdd, Nat.reduceMul, Nat.reduceLeDiff, Nat.le_refl, Int.natCast_zero, Int.toNat_natCast, Int.reduceToNat, *]))); all_goals (first | omega | (refine ⟨?_, ?_⟩ <;> omega) | (exact rfl) | (simp; done) | (simp; omega) | trace_state))
  · have hd : ((s.length : Int) == o.length) = false := by simp; omega
    have gn := get_some hlt
    have hne : (o[s.length] != p.chamber) = false := by simp [q1]
    have gc := get_some hcl
    have hlt2 : l[p.chamber.toNat].length - 1 < l[p.chamber.toNat].length := by omega
    have gL : l[p.chamber.toNat][((l[p.chamber.toNat].length : Int) - 1).toNat]? = some l[p.chamber.toNat][l[p.chamber.toNat].length - 1] := by rw [pred_toNat hst]; exact get_some hlt2
    have hx := h2 _ (List.getElem_mem hcl)
    have gr : (List.replicate o.length (AV.val (Value.int IntKind.i64 0)))[p.chamber.toNat]? = some (AV.val (Value.int IntKind.i64 0)) := by rw [List.getElem?_replicate, if_pos (by omega)]
    clear q1 hb hb2 k1 k2 k3 pk hp hcode hN
    generalize l[p.chamber.toNat] = z at *
    rcases q with ⟨q1, q2, q3⟩ | ⟨q1, q4, q2, q3⟩ | ⟨q1, q4, q2, q3⟩
    · rw [q2]
      clear q2 q3
      refine sCallT_inl 500000 84 [.tmp 4] Try.func112 rfl rfl rfl rfl rfl (by exact of_decide_eq_true rfl) ?_
      simp -dsimp -implicitDefEqProofs only [go_sem, ↓reduceIte, Nat.reduceEqDiff, Nat.reduceLT, Nat.reduceAdd, Nat.reduceMul, Nat.reduceLeDiff, Nat.le_refl, Int.natCast_zero, Int.toNat_natCast, Int.reduceToNat, hd, gn, hne, gc]
      ((repeat' (first | (refine Br.intro (fun _ => ?_) (fun _ => ?_) <;> try simp -dsimp -implicitDefEqProofs only [go_sem, ↓reduceIte, Nat.reduceEqDiff, Nat.reduceLT, Nat.reduceAdd, Nat.reduceMul, Nat.reduceLeDiff, Nat.le_refl, Int.natCast_zero, Int.toNat_natCast, Int.reduceToNat, *]) | (with_reducible refine And.intro ?_ ?_) | (refine Later.draw mixed rfl ?_; try simp -dsimp -implicitDefEqProofs only [go_sem, ↓reduceIte, Nat.reduceEqDiff, Nat.reduceLT, Nat.reduceAdd, Nat.reduceMul, Nat.reduceLeDiff, Nat.le_refl, Int.natCast_zero, Int.toNat_natCast, Int.reduceToNat, *]) | (refine sCallT_one (c_Contains z p.depth hx) ?_; try simp -dsimp -implicitDefEqProofs only [go_sem, ↓reduceIte, Nat.reduceEqDiff, Nat.reduceLT, Nat.reduceAdd, Nat.reduceMul, Nat.reduceLeDiff, Nat.le_refl, Int.natCast_zero, Int.toNat_natCast, Int.reduceToNat, *]))); all_goals try (first | omega | (refine ⟨?_, ?_⟩ <;> omega) | (exact rfl) | (simp; done) | (simp; omega)))
      refine sCallT_inl 600000 13 [.tmp 2] Try.func108 rfl rfl rfl rfl rfl (by exact of_decide_eq_true rfl) ?_
      simp -dsimp -implicitDefEqProofs only [go_sem, ↓reduceIte, Nat.reduceEqDiff, Nat.reduceLT, Nat.reduceAdd, Nat.reduceMul, Nat.reduceLeDiff, Nat.le_refl, Int.natCast_zero, Int.toNat_natCast, Int.reduceToNat]
      ((repeat' (first | (refine Br.intro (fun _ => ?_) (fun _ => ?_) <;> try simp -dsimp -implicitDefEqProofs only [go_sem, ↓reduceIte, Nat.reduceEqDiff, Nat.reduceLT, Nat.reduceAdd, Nat.reduceMul, Nat.reduceLeDiff, Nat.le_refl, Int.natCast_zero, Int.toNat_natCast, Int.reduceToNat, *]) | (with_reducible refine And.intro ?_ ?_) | (refine Later.draw mixed rfl ?_; try simp -dsimp -implicitDefEqProofs only [go_sem, ↓reduceIte, Nat.reduceEqDiff, Nat.reduceLT, Nat.reduceAdd, Nat.reduceMul, Nat.reduceLeDiff, Nat.le_refl, Int.natCast_zero, Int.toNat_natCast, Int.reduceToNat, *]) | (rw [← List.map_take]; refine sCallX_one (c_rowsOf (o.take (s.length + 1)) (by simp; omega)) ?_; try simp -dsimp -implicitDefEqProofs only [go_sem, ↓reduceIte, Nat.reduceEqDiff, Nat.reduceLT, Nat.reduceAdd, Nat.reduceMul, Nat.reduceLeDiff, Nat.le_refl, Int.natCast_zero, Int.toNat_natCast, Int.reduceToNat, *]) | (refine sCallX_one (c_rowsOf [] (by simp)) ?_; try simp -dsimp -implicitDefEqProofs only [go_sem, ↓reduceIte, Nat.reduceEqDiff, Nat.reduceLT, Nat.reduceAdd, Nat.reduceMul, Nat.reduceLeDiff, Nat.le_refl, Int.natCast_zero, Int.toNat_natCast, Int.reduceToNat, *]))); all_goals (first | omega | (refine ⟨?_, ?_⟩ <;> omega) | (exact rfl) | (simp; done) | (simp; omega) | trace_state))
    · rw [q2]
      clear q2 q3
      have hgt : decide (p.depth > z[z.length - 1]) = true := by rw [getElem!_pos z (z.length - 1) hlt2] at q4; exact decide_eq_true q4
      rcases Nat.eq_zero_or_pos s.length with hz | hz
      · have hp0 : decide ((s.length : Int) > 0) = false := by simp [hz]
        clear hz
        refine sCallT_inl 500000 84 [.tmp 4] Try.func112 rfl rfl rfl rfl rfl (by exact of_decide_eq_true rfl) ?_
        simp -dsimp -implicitDefEqProofs only [go_sem, ↓reduceIte, Nat.reduceEqDiff, Nat.reduceLT, Nat.reduceAdd, Nat.reduceMul, Nat.reduceLeDiff, Nat.le_refl, Int.natCast_zero, Int.toNat_natCast, Int.reduceToNat, hd, gn, hne, gc]
        ((repeat' (first | (refine Br.intro (fun _ => ?_) (fun _ => ?_) <;> try simp -dsimp -implicitDefEqProofs only [go_sem, ↓reduceIte, Nat.reduceEqDiff, Nat.reduceLT, Nat.reduceAdd, Nat.reduceMul, Nat.reduceLeDiff, Nat.le_refl, Int.natCast_zero, Int.toNat_natCast, Int.reduceToNat, *]) | (with_reducible refine And.intro ?_ ?_) | (refine Later.draw mixed rfl ?_; try simp -dsimp -implicitDefEqProofs only [go_sem, ↓reduceIte, Nat.reduceEqDiff, Nat.reduceLT, Nat.reduceAdd, Nat.reduceMul, Nat.reduceLeDiff, Nat.le_refl, Int.natCast_zero, Int.toNat_natCast, Int.reduceToNat, *]) | (refine sCallT_one (c_Contains z p.depth hx) ?_; try simp -dsimp -implicitDefEqProofs only [go_sem, ↓reduceIte, Nat.reduceEqDiff, Nat.reduceLT, Nat.reduceAdd, Nat.reduceMul, Nat.reduceLeDiff, Nat.le_refl, Int.natCast_zero, Int.toNat_natCast, Int.reduceToNat, *]))); all_goals try (first | omega | (refine ⟨?_, ?_⟩ <;> omega) | (exact rfl) | (simp; done) | (simp; omega)))
        refine sCallT_inl 600000 13 [.tmp 2] Try.func108 rfl rfl rfl rfl rfl (by exact of_decide_eq_true rfl) ?_
        simp -dsimp -implicitDefEqProofs only [go_sem, ↓reduceIte, Nat.reduceEqDiff, Nat.reduceLT, Nat.reduceAdd, Nat.reduceMul, Nat.reduceLeDiff, Nat.le_refl, Int.natCast_zero, Int.toNat_natCast, Int.reduceToNat]
        ((repeat' (first | (refine Br.intro (fun _ => ?_) (fun _ => ?_) <;> try simp -dsimp -implicitDefEqProofs only [go_sem, ↓reduceIte, Nat.reduceEqDiff, Nat.reduceLT, Nat.reduceAdd, Nat.reduceMul, Nat.reduceLeDiff, Nat.le_refl, Int.natCast_zero, Int.toNat_natCast, Int.reduceToNat, *]) | (with_reducible refine And.intro ?_ ?_) | (refine Later.draw mixed rfl ?_; try simp -dsimp -implicitDefEqProofs only [go_sem, ↓reduceIte, Nat.reduceEqDiff, Nat.reduceLT, Nat.reduceAdd, Nat.reduceMul, Nat.reduceLeDiff, Nat.le_refl, Int.natCast_zero, Int.toNat_natCast, Int.reduceToNat, *]) | (rw [← List.map_take]; refine sCallX_one (c_rowsOf (o.take 0) (by simp; omega)) ?_; try simp -dsimp -implicitDefEqProofs only [go_sem, ↓reduceIte, Nat.reduceEqDiff, Nat.reduceLT, Nat.reduceAdd, Nat.reduceMul, Nat.reduceLeDiff, Nat.le_refl, Int.natCast_zero, Int.toNat_natCast, Int.reduceToNat, *]) | (refine sCallX_one (c_rowsOf [] (by simp)) ?_; try simp -dsimp -implicitDefEqProofs only [go_sem, ↓reduceIte, Nat.reduceEqDiff, Nat.reduceLT, Nat.reduceAdd, Nat.reduceMul, Nat.reduceLeDiff, Nat.le_refl, Int.natCast_zero, Int.toNat_natCast, Int.reduceToNat, *]))); all_goals (first | omega | (refine ⟨?_, ?_⟩ <;> omega) | (exact rfl) | (simp; done) | (simp; omega) | trace_state))
      · have hp0 : decide ((s.length : Int) > 0) = true := by simp; omega
        clear hz
        refine sCallT_inl 500000 84 [.tmp 4] Try.func112 rfl rfl rfl rfl rfl (by exact of_decide_eq_true rfl) ?_
        simp -dsimp -implicitDefEqProofs only [go_sem, ↓reduceIte, Nat.reduceEqDiff, Nat.reduceLT, Nat.reduceAdd, Nat.reduceMul, Nat.reduceLeDiff, Nat.le_refl, Int.natCast_zero, Int.toNat_natCast, Int.reduceToNat, hd, gn, hne, gc]
        ((repeat' (first | (refine Br.intro (fun _ => ?_) (fun _ => ?_) <;> try simp -dsimp -implicitDefEqProofs only [go_sem, ↓reduceIte, Nat.reduceEqDiff, Nat.reduceLT, Nat.reduceAdd, Nat.reduceMul, Nat.reduceLeDiff, Nat.le_refl, Int.natCast_zero, Int.toNat_natCast, Int.reduceToNat, *]) | (with_reducible refine And.intro ?_ ?_) | (refine Later.draw mixed rfl ?_; try simp -dsimp -implicitDefEqProofs only [go_sem, ↓reduceIte, Nat.reduceEqDiff, Nat.reduceLT, Nat.reduceAdd, Nat.reduceMul, Nat.reduceLeDiff, Nat.le_refl, Int.natCast_zero, Int.toNat_natCast, Int.reduceToNat, *]) | (refine sCallT_one (c_Contains z p.depth hx) ?_; try simp -dsimp -implicitDefEqProofs only [go_sem, ↓reduceIte, Nat.reduceEqDiff, Nat.reduceLT, Nat.reduceAdd, Nat.reduceMul, Nat.reduceLeDiff, Nat.le_refl, Int.natCast_zero, Int.toNat_natCast, Int.reduceToNat, *]))); all_goals try (first | omega | (refine ⟨?_, ?_⟩ <;> omega) | (exact rfl) | (simp; done) | (simp; omega)))
        refine sCallT_inl 600000 13 [.tmp 2] Try.func108 rfl rfl rfl rfl rfl (by exact of_decide_eq_true rfl) ?_
        simp -dsimp -implicitDefEqProofs only [go_sem, ↓reduceIte, Nat.reduceEqDiff, Nat.reduceLT, Nat.reduceAdd, Nat.reduceMul, Nat.reduceLeDiff, Nat.le_refl, Int.natCast_zero, Int.toNat_natCast, Int.reduceToNat]
        ((repeat' (first | (refine Br.intro (fun _ => ?_) (fun _ => ?_) <;> try simp -dsimp -implicitDefEqProofs only [go_sem, ↓reduceIte, Nat.reduceEqDiff, Nat.reduceLT, Nat.reduceAdd, Nat.reduceMul, Nat.reduceLeDiff, Nat.le_refl, Int.natCast_zero, Int.toNat_natCast, Int.reduceToNat, *]) | (with_reducible refine And.intro ?_ ?_) | (refine Later.draw mixed rfl ?_; try simp -dsimp -implicitDefEqProofs only [go_sem, ↓reduceIte, Nat.reduceEqDiff, Nat.reduceLT, Nat.reduceAdd, Nat.reduceMul, Nat.reduceLeDiff, Nat.le_refl, Int.natCast_zero, Int.toNat_natCast, Int.reduceToNat, *]) | (rw [← List.map_take]; refine sCallX_one (c_rowsOf (o.take 0) (by simp; omega)) ?_; try simp -dsimp -implicitDefEqProofs only [go_sem, ↓reduceIte, Nat.reduceEqDiff, Nat.reduceLT, Nat.reduceAdd, Nat.reduceMul, Nat.reduceLeDiff, Nat.le_refl, Int.natCast_zero, Int.toNat_natCast, Int.reduceToNat, *]) | (refine sCallX_one (c_rowsOf [] (by simp)) ?_; try simp -dsimp -implicitDefEqProofs only [go_sem, ↓reduceIte, Nat.reduceEqDiff, Nat.reduceLT, Nat.reduceAdd, Nat.reduceMul, Nat.reduceLeDiff, Nat.le_refl, Int.natCast_zero, Int.toNat_natCast, Int.reduceToNat, *]))); all_goals (first | omega | (refine ⟨?_, ?_⟩ <;> omega) | (exact rfl) | (simp; done) | (simp; omega) | trace_state))
    · rw [q2]
      clear q2 q3
      have hgt : decide (p.depth > z[z.length - 1]) = false := by rw [getElem!_pos z (z.length - 1) hlt2] at q4; exact decide_eq_false q4
      refine sCallT_inl 500000 84 [.tmp 4] Try.func112 rfl rfl rfl rfl rfl (by exact of_decide_eq_true rfl) ?_
      simp -dsimp -implicitDefEqProofs only [go_sem, ↓reduceIte, Nat.reduceEqDiff, Nat.reduceLT, Nat.reduceAdd, Nat.reduceMul, Nat.reduceLeDiff, Nat.le_refl, Int.natCast_zero, Int.toNat_natCast, Int.reduceToNat, hd, gn, hne, gc]
      ((repeat' (first | (refine Br.intro (fun _ => ?_) (fun _ => ?_) <;> try simp -dsimp -implicitDefEqProofs only [go_sem, ↓reduceIte, Nat.reduceEqDiff, Nat.reduceLT, Nat.reduceAdd, Nat.reduceMul, Nat.reduceLeDiff, Nat.le_refl, Int.natCast_zero, Int.toNat_natCast, Int.reduceToNat, *]) | (with_reducible refine And.intro ?_ ?_) | (refine Later.draw mixed rfl ?_; try simp -dsimp -implicitDefEqProofs only [go_sem, ↓reduceIte, Nat.reduceEqDiff, Nat.reduceLT, Nat.reduceAdd, Nat.reduceMul, Nat.reduceLeDiff, Nat.le_refl, Int.natCast_zero, Int.toNat_natCast, Int.reduceToNat, *]) | (refine sCallT_one (c_Contains z p.depth hx) ?_; try simp -dsimp -implicitDefEqProofs only [go_sem, ↓reduceIte, Nat.reduceEqDiff, Nat.reduceLT, Nat.reduceAdd, Nat.reduceMul, Nat.reduceLeDiff, Nat.le_refl, Int.natCast_zero, Int.toNat_natCast, Int.reduceToNat, *]))); all_goals try (first | omega | (refine ⟨?_, ?_⟩ <;> omega) | (exact rfl) | (simp; done) | (simp; omega)))
      refine sCallT_inl 600000 13 [.tmp 2] Try.func108 rfl rfl rfl rfl rfl (by exact of_decide_eq_true rfl) ?_
      simp -dsimp -implicitDefEqProofs only [go_sem, ↓reduceIte, Nat.reduceEqDiff, Nat.reduceLT, Nat.reduceAdd, Nat.reduceMul, Nat.reduceLeDiff, Nat.le_refl, Int.natCast_zero, Int.toNat_natCast, Int.reduceToNat]
      ((repeat' (first | (refine Br.intro (fun _ => ?_) (fun _ => ?_) <;> try simp -dsimp -implicitDefEqProofs only [go_sem, ↓reduceIte, Nat.reduceEqDiff, Nat.reduceLT, Nat.reduceAdd, Nat.reduceMul, Nat.reduceLeDiff, Nat.le_refl, Int.natCast_zero, Int.toNat_natCast, Int.reduceToNat, *]) | (with_reducible refine And.intro ?_ ?_) | (refine Later.draw mixed rfl ?_; try simp -dsimp -implicitDefEqProofs only [go_sem, ↓reduceIte, Nat.reduceEqDiff, Nat.reduceLT, Nat.reduceAdd, Nat.reduceMul, Nat.reduceLeDiff, Nat.le_refl, Int.natCast_zero, Int.toNat_natCast, Int.reduceToNat, *]) | (rw [← List.map_take]; refine sCallX_one (c_rowsOf (o.take s.length) (by simp; omega)) ?_; try simp -dsimp -implicitDefEqProofs only [go_sem, ↓reduceIte, Nat.reduceEqDiff, Nat.reduceLT, Nat.reduceAdd, Nat.reduceMul, Nat.reduceLeDiff, Nat.le_refl, Int.natCast_zero, Int.toNat_natCast, Int.reduceToNat, *]) | (refine sCallX_one (c_rowsOf [] (by simp)) ?_; try simp -dsimp -implicitDefEqProofs only [go_sem, ↓reduceIte, Nat.reduceEqDiff, Nat.reduceLT, Nat.reduceAdd, Nat.reduceMul, Nat.reduceLeDiff, Nat.le_refl, Int.natCast_zero, Int.toNat_natCast, Int.reduceToNat, *]))); all_goals (first | omega | (refine ⟨?_, ?_⟩ <;> omega) | (exact rfl) | (simp; done) | (simp; omega) | trace_state))
end Go.Vc


/-
  Draws of orders and picks.
-/
set_option linter.unusedVariables false
set_option linter.unusedSimpArgs false
set_option linter.unnecessarySimpa false
namespace Go.Vc
open Go.Proofs
set_option maxRecDepth 100000
set_option maxHeartbeats 4000000
/-- an order that is drawn: what is left, what is out, the source -/
structure OSt where
  left : List Int
  out : List Int
  src : Src
def ordSt (bs : List UInt8) (p : OSt) : OSt :=
  ⟨p.left.take (nx bs p.left.length p.src).1.toNat ++ p.left.drop ((nx bs p.left.length p.src).1.toNat + 1), p.out ++ [p.left.getD (nx bs p.left.length p.src).1.toNat 0], (nx bs p.left.length p.src).2⟩
def ordN (bs : List UInt8) (p : OSt) : Nat → OSt
  | 0 => p
  | i + 1 => ordSt bs (ordN bs p i)
def upI (n : Nat) : List Int := (List.range n).map fun i : Nat => (i : Int)
theorem upI_len (n : Nat) : (upI n).length = n := by simp [upI]
theorem upI_succ (n : Nat) : upI (n + 1) = upI n ++ [(n : Int)] := by simp [upI, List.range_succ]
theorem nx_lt {bs : List UInt8} {n : Nat} {s : Src} (h : SrcOk s) (h0 : 0 < n) : 0 ≤ (nx bs n s).1 ∧ (nx bs n s).1 < n ∧ (nx bs n s).1.toNat < n := by
  have hn := nx_ok bs n h
  by_cases h1 : (n : Int) ≤ 1
  · have := hn.2.1 h1; omega
  · have := hn.2.2.1 (by omega); omega
theorem ordN_ok {bs : List UInt8} {p : OSt} (h : SrcOk p.src) (h2 : ∀ x ∈ p.left, 0 ≤ x) (h3 : p.out = []) : ∀ i, i ≤ p.left.length → SrcOk (ordN bs p i).src ∧ (ordN bs p i).left.length = p.left.length - i ∧ (ordN bs p i).out.length = i ∧ (∀ x ∈ (ordN bs p i).left, 0 ≤ x) ∧ ∀ x ∈ (ordN bs p i).out, 0 ≤ x
  | 0, _ => ⟨h, rfl, by rw [ordN, h3]; rfl, h2, by rw [ordN, h3]; intro x hx; cases hx⟩
  | i + 1, hi => by
    obtain ⟨g1, g2, g3, g4, g5⟩ := ordN_ok h h2 h3 i (by omega) (bs := bs)
    simp only [ordN, ordSt]
    generalize ordN bs p i = q at *
    have hl : 0 < q.left.length := by omega
    have hn := nx_lt (bs := bs) g1 hl
    have hs := (nx_ok bs q.left.length g1).2.2.2
    generalize nx bs q.left.length q.src = a at *
    refine ⟨hs, by simp; omega, by simp [g3], fun x hx => ?_, fun x hx => ?_⟩
    · rcases List.mem_append.1 hx with h | h
      · exact g4 x (List.mem_of_mem_take h)
      · exact g4 x (List.mem_of_mem_drop h)
    · rcases List.mem_append.1 hx with h | h
      · exact g5 x h
      · simp only [List.mem_singleton] at h
        subst h
        rw [List.getD_eq_getElem?_getD, List.getElem?_eq_getElem hn.2.2]
        exact g4 _ (List.getElem_mem _)
def ordE (p : List Int) (n : Int × Src) : List Int × Src :=
  if n.1 = 0 then (p ++ [0], n.2) else if n.1 = 1 then (if 1 < p.length then (p.set 0 (p.getD 1 0), n.2) else (p, n.2)) else (p, n.2)
def ordO (bs : List UInt8) (m : MkM) (s : Src) : OSt := ordN bs ⟨upI (chD m).toNat, [], s⟩ (chD m).toNat
def ordD (bs : List UInt8) (m : MkM) (s : Src) : List Int × Src := ordE (ordO bs m s).out (nx bs 30 (ordO bs m s).src)
theorem chD_bnd {m : MkM} (hm : MkB m) : 0 ≤ chD m ∧ chD m ≤ 7 := by have := hm.c; unfold chD; split <;> omega
theorem ordO_ok {bs : List UInt8} {m : MkM} {s : Src} (hm : MkB m) (h : SrcOk s) : SrcOk (ordO bs m s).src ∧ (ordO bs m s).out.length ≤ 7 ∧ ∀ x ∈ (ordO bs m s).out, 0 ≤ x := by
  have hc := chD_bnd hm
  have := ordN_ok (bs := bs) (p := ⟨upI (chD m).toNat, [], s⟩) h (fun x hx => by simp only [upI, List.mem_map] at hx; obtain ⟨i, _, rfl⟩ := hx; omega) rfl (chD m).toNat (by simp [upI_len])
  unfold ordO
  exact ⟨this.1, by omega, this.2.2.2.2⟩
theorem ordD_ok {bs : List UInt8} {m : MkM} {s : Src} (hm : MkB m) (h : SrcOk s) : SrcOk (ordD bs m s).2 ∧ (ordD bs m s).1.length ≤ 8 ∧ ∀ x ∈ (ordD bs m s).1, 0 ≤ x := by
  obtain ⟨h1, h2, h3⟩ := ordO_ok (bs := bs) hm h
  have h4 := (nx_ok bs 30 h1).2.2.2
  unfold ordD ordE
  generalize ordO bs m s = q at *
  split
  · refine ⟨h4, by simp; omega, fun x hx => ?_⟩
    rcases List.mem_append.1 hx with h | h
    · exact h3 x h
    · simp at h; omega
  split
  · split
    · rename_i hl
      refine ⟨h4, by simp; omega, fun x hx => ?_⟩
      rcases List.mem_or_eq_of_mem_set hx with h | h
      · exact h3 x h
      · rw [h, List.getD_eq_getElem?_getD, List.getElem?_eq_getElem hl]
        exact h3 _ (List.getElem_mem _)
    · exact ⟨h4, by dsimp only; omega, h3⟩
  · exact ⟨h4, by dsimp only; omega, h3⟩
theorem c_l32DrawOrder (v : Nat) (bs : List UInt8) (m : MkM) (s : Src) (hm : MkB m) (h : SrcOk s) (hl : bs.length ≤ 4096) :
    FnM Try.prog 100 [srcB v bs s] [.ptr 1000000000 v 0 0, eMk m] (fun x io => x = eIs (ordD bs m s).1 ∧ io = [srcB v bs (ordD bs m s).2]) := by
  refine FnM.of_vcN 63 [.tmp 4] Try.func100 rfl rfl rfl rfl rfl (of_decide_eq_true rfl) ?_
  have hc := hm.c
  have hch := chD_bnd hm
  have hon := ordN_ok (bs := bs) (p := ⟨upI (chD m).toNat, [], s⟩) h (fun x hx => by simp only [upI, List.mem_map] at hx; obtain ⟨i, _, rfl⟩ := hx; omega) rfl
  unfold ordD ordO
  simp only [upI_len] at hon
  simp -dsimp -implicitDefEqProofs only [go_sem, ↓reduceIte, Nat.reduceEqDiff, Nat.reduceLT, Nat.reduceAdd, Nat.reduceMul, Nat.reduceLeDiff, Nat.le_refl, Int.natCast_zero, Int.toNat_natCast, Int.reduceToNat]
  refine Later.up [0, 3] [13, 19, 20] [9] (chD m).toNat (fun _ => True) (fun i => [(6, eI i), (5, .ref 9 0 0 i)]) (fun i => [(9, .row 0 ⟨1, false⟩ true ((upI i).map eI))]) trivial ?_ rfl (fun i hi _ => ?_) (fun _ => ?_)
  · simp -dsimp -implicitDefEqProofs only [go_sem, ↓reduceIte, Nat.reduceEqDiff, Nat.reduceLT, Nat.reduceAdd, Nat.reduceMul, Nat.reduceLeDiff, Nat.le_refl, Int.natCast_zero, Int.toNat_natCast, Int.reduceToNat, upI]
    all_goals rfl
  · have hlt : decide ((i : Int) < chD m) = true := decide_eq_true (by omega)
    unfold chD at hlt
    have hul := upI_len i
    rw [upI_succ]
    generalize upI i = u at *
    have htk : List.take i (List.map eI u) = List.map eI u := List.take_of_length_le (by simp; omega)
    simp -dsimp -implicitDefEqProofs only [pick_nil, pick_cons, look_nil, look_cons, dropB_nil, dropB_cons, inD_nil, inD_cons, inE_nil, inE_cons, or_t_l, or_f_l, Nat.reduceBEq, Nat.reduceDiv, Nat.reduceAdd, beq_self_eq_true, Bool.false_eq_true, Bool.or_false, ↓reduceIte, Nat.reduceEqDiff, List.cons_append, List.nil_append]
    simp -dsimp -implicitDefEqProofs only [go_sem, ↓reduceIte, Nat.reduceEqDiff, Nat.reduceLT, Nat.reduceAdd, Nat.reduceMul, Nat.reduceLeDiff, Nat.le_refl, Int.natCast_zero, Int.toNat_natCast, Int.reduceToNat, hlt, htk]
    ((repeat' (with_reducible refine And.intro ?_ ?_)); all_goals try (first | omega | (refine ⟨?_, ?_⟩ <;> omega) | (exact rfl)))
    all_goals (simp; done)
  · have hlt : decide (((chD m).toNat : Int) < chD m) = false := decide_eq_false (by omega)
    have hul := upI_len (chD m).toNat
    generalize hW : chD m = W at *
    unfold chD at hW
    generalize upI W.toNat = u at *
    simp -dsimp -implicitDefEqProofs only [pick_nil, pick_cons, look_nil, look_cons, dropB_nil, dropB_cons, inD_nil, inD_cons, inE_nil, inE_cons, or_t_l, or_f_l, Nat.reduceBEq, Nat.reduceDiv, Nat.reduceAdd, beq_self_eq_true, Bool.false_eq_true, Bool.or_false, ↓reduceIte, Nat.reduceEqDiff, List.cons_append, List.nil_append]
    simp -dsimp -implicitDefEqProofs only [go_sem, ↓reduceIte, Nat.reduceEqDiff, Nat.reduceLT, Nat.reduceAdd, Nat.reduceMul, Nat.reduceLeDiff, Nat.le_refl, Int.natCast_zero, Int.toNat_natCast, Int.reduceToNat, hlt, hW]
    refine Later.upR [0] [23, 27, 28, 34, 35, 39, 44] [21, 9, 1000000000] W.toNat (fun _ => True) (fun i => [(7, .ref 21 0 0 i), (5, .ref 9 0 0 (W.toNat - i))]) (fun i => [(21, .row 0 ⟨1, false⟩ true ((ordN bs ⟨u, [], s⟩ i).out.map eI)), (9, .row 0 ⟨1, false⟩ true ((ordN bs ⟨u, [], s⟩ i).left.map eI)), (1000000000, srcB v bs (ordN bs ⟨u, [], s⟩ i).src)]) trivial (.here ?_) rfl (fun i hi _ => ?_) (fun _ => ?_)
    · simp -dsimp -implicitDefEqProofs only [go_sem, ↓reduceIte, Nat.reduceEqDiff, Nat.reduceLT, Nat.reduceAdd, Nat.reduceMul, Nat.reduceLeDiff, Nat.le_refl, Int.natCast_zero, Int.toNat_natCast, Int.reduceToNat, ordN]
    · obtain ⟨g1, g2, g3, g4, g5⟩ := hon i (by omega)
      clear hon
      simp only [ordN, ordSt]
      generalize ordN bs ⟨u, [], s⟩ i = q at *
      have hl0 : 0 < q.left.length := by omega
      have hnl := nx_lt (bs := bs) g1 hl0
      have hns := (nx_ok bs q.left.length g1).2.2.2
      have q1 := fun v => c_l01Next v bs q.left.length _ g1 hl
      have gk := get_some hnl.2.2
      have egd : q.left.getD (nx bs q.left.length q.src).1.toNat 0 = q.left[(nx bs q.left.length q.src).1.toNat] := by simp [List.getD_eq_getElem?_getD, hnl.2.2]
      rw [egd]
      have elen : ((W.toNat - i : Nat) : Int) = (q.left.length : Int) := by omega
      have hgt : decide ((q.left.length : Int) > 0) = true := decide_eq_true (by omega)
      have hown := c_l01Own (q.left.take (nx bs q.left.length q.src).1.toNat) (by simp; omega)
      have htk : List.take i (List.map eI q.out) = List.map eI q.out := List.take_of_length_le (by simp; omega)
      generalize q.left[(nx bs q.left.length q.src).1.toNat] = z at *
      generalize nx bs q.left.length q.src = a at *
      have hmt : List.take a.1.toNat (List.map eI q.left) = List.map eI (q.left.take a.1.toNat) := List.map_take.symm
      simp -dsimp -implicitDefEqProofs only [pick_nil, pick_cons, look_nil, look_cons, dropB_nil, dropB_cons, inD_nil, inD_cons, inE_nil, inE_cons, or_t_l, or_f_l, Nat.reduceBEq, Nat.reduceDiv, Nat.reduceAdd, beq_self_eq_true, Bool.false_eq_true, Bool.or_false, ↓reduceIte, Nat.reduceEqDiff, List.cons_append, List.nil_append]
      simp -dsimp -implicitDefEqProofs only [go_sem, ↓reduceIte, Nat.reduceEqDiff, Nat.reduceLT, Nat.reduceAdd, Nat.reduceMul, Nat.reduceLeDiff, Nat.le_refl, Int.natCast_zero, Int.toNat_natCast, Int.reduceToNat, elen, hgt]
      (refine sCallT_io [1000000000] ?_; simp -dsimp -implicitDefEqProofs only [go_sem, ↓reduceIte, Nat.reduceEqDiff, Nat.reduceLT, Nat.reduceAdd, Nat.reduceMul, Nat.reduceLeDiff, Nat.le_refl, Int.natCast_zero, Int.toNat_natCast, Int.reduceToNat]; refine sCallM_one (q1 _) ?_; simp -dsimp -implicitDefEqProofs only [go_sem, ↓reduceIte, Nat.reduceEqDiff, Nat.reduceLT, Nat.reduceAdd, Nat.reduceMul, Nat.reduceLeDiff, Nat.le_refl, Int.natCast_zero, Int.toNat_natCast, Int.reduceToNat])
      simp -dsimp -implicitDefEqProofs only [go_sem, ↓reduceIte, Nat.reduceEqDiff, Nat.reduceLT, Nat.reduceAdd, Nat.reduceMul, Nat.reduceLeDiff, Nat.le_refl, Int.natCast_zero, Int.toNat_natCast, Int.reduceToNat, gk, htk]
      ((repeat' (with_reducible refine And.intro ?_ ?_)); all_goals try (first | omega | (refine ⟨?_, ?_⟩ <;> omega) | (exact rfl)))
      refine Later.draw mixed rfl ?_
      simp -dsimp -implicitDefEqProofs only [go_sem, ↓reduceIte, Nat.reduceEqDiff, Nat.reduceLT, Nat.reduceAdd, Nat.reduceMul, Nat.reduceLeDiff, Nat.le_refl, Int.natCast_zero, Int.toNat_natCast, Int.reduceToNat]
      refine ⟨⟨by omega, by omega, by omega⟩, by omega, ?_⟩
      rw [hmt]
      refine sCallX_one hown ?_
      simp -dsimp -implicitDefEqProofs only [go_sem, ↓reduceIte, Nat.reduceEqDiff, Nat.reduceLT, Nat.reduceAdd, Nat.reduceMul, Nat.reduceLeDiff, Nat.le_refl, Int.natCast_zero, Int.toNat_natCast, Int.reduceToNat]
      ((repeat' (with_reducible refine And.intro ?_ ?_)); all_goals try (first | omega | (refine ⟨?_, ?_⟩ <;> omega) | (exact rfl)))
      · rw [← List.map_drop, ← List.map_take]; exact isFlatL_map _ fun _ => rfl
      refine .one 40000 9 (by decide) (by decide) ?_
      simp -dsimp -implicitDefEqProofs only [go_sem, ↓reduceIte, Nat.reduceEqDiff, Nat.reduceLT, Nat.reduceAdd, Nat.reduceMul, Nat.reduceLeDiff, Nat.le_refl, Int.natCast_zero, Int.toNat_natCast, Int.reduceToNat]
      refine ⟨by simp; omega, by simp, ?_⟩
      have hmin : min a.1.toNat q.left.length = a.1.toNat := Nat.min_eq_left (by omega)
      try rw [Nat.min_eq_left (Nat.le_of_eq hmin)]
      rw [hmin, List.map_append, List.map_take, List.map_drop, List.take_of_length_le (l := List.drop (a.1 + 1).toNat (List.map eI q.left)) (by simp; omega), show (a.1 + 1).toNat = a.1.toNat + 1 by omega]
    · obtain ⟨g1, g2, g3, g4, g5⟩ := hon W.toNat (by omega)
      clear hon
      unfold ordE
      generalize ordN bs ⟨u, [], s⟩ W.toNat = q at *
      have q1 := fun v => c_l01Next v bs 30 _ g1 hl
      have hns := (nx_ok bs 30 g1).2.2.2
      generalize nx bs 30 q.src = a at *
      have elen : ((W.toNat - W.toNat : Nat) : Int) = 0 := by omega
      have hgt : decide ((0 : Int) > 0) = false := rfl
      simp -dsimp -implicitDefEqProofs only [pick_nil, pick_cons, look_nil, look_cons, dropB_nil, dropB_cons, inD_nil, inD_cons, inE_nil, inE_cons, or_t_l, or_f_l, Nat.reduceBEq, Nat.reduceDiv, Nat.reduceAdd, beq_self_eq_true, Bool.false_eq_true, Bool.or_false, ↓reduceIte, Nat.reduceEqDiff, List.cons_append, List.nil_append]
      simp -dsimp -implicitDefEqProofs only [go_sem, ↓reduceIte, Nat.reduceEqDiff, Nat.reduceLT, Nat.reduceAdd, Nat.reduceMul, Nat.reduceLeDiff, Nat.le_refl, Int.natCast_zero, Int.toNat_natCast, Int.reduceToNat, elen, hgt]
      (refine sCallT_io [1000000000] ?_; simp -dsimp -implicitDefEqProofs only [go_sem, ↓reduceIte, Nat.reduceEqDiff, Nat.reduceLT, Nat.reduceAdd, Nat.reduceMul, Nat.reduceLeDiff, Nat.le_refl, Int.natCast_zero, Int.toNat_natCast, Int.reduceToNat]; refine sCallM_one (q1 _) ?_; simp -dsimp -implicitDefEqProofs only [go_sem, ↓reduceIte, Nat.reduceEqDiff, Nat.reduceLT, Nat.reduceAdd, Nat.reduceMul, Nat.reduceLeDiff, Nat.le_refl, Int.natCast_zero, Int.toNat_natCast, Int.reduceToNat])
      rcases b0 : (a.1 == 0) with _ | _
      rotate_left
      · rw [if_pos (beq_iff_eq.1 b0)]
        simp -dsimp -implicitDefEqProofs only [go_sem, ↓reduceIte, Nat.reduceEqDiff, Nat.reduceLT, Nat.reduceAdd, Nat.reduceMul, Nat.reduceLeDiff, Nat.le_refl, Int.natCast_zero, Int.toNat_natCast, Int.reduceToNat, b0]
        ((repeat' (with_reducible refine And.intro ?_ ?_)); all_goals try (first | omega | (refine ⟨?_, ?_⟩ <;> omega) | (exact rfl)))
        all_goals first | (simp; done) | (rw [List.take_of_length_le (l := List.map eI q.out) (by simp; omega)]; done) | (rw [List.take_of_length_le (l := List.map eI q.out) (by simp; omega), List.take_of_length_le (by simp; omega)]; simp; done) | (rw [List.take_of_length_le (by simp; omega)]; simp [List.map_set]; done) | trace_state
      rw [if_neg (beq_eq_false_iff_ne.1 b0)]
      rcases b1 : (a.1 == 1) with _ | _
      · rw [if_neg (beq_eq_false_iff_ne.1 b1)]
        simp -dsimp -implicitDefEqProofs only [go_sem, ↓reduceIte, Nat.reduceEqDiff, Nat.reduceLT, Nat.reduceAdd, Nat.reduceMul, Nat.reduceLeDiff, Nat.le_refl, Int.natCast_zero, Int.toNat_natCast, Int.reduceToNat, b0, b1]
        ((repeat' (with_reducible refine And.intro ?_ ?_)); all_goals try (first | omega | (refine ⟨?_, ?_⟩ <;> omega) | (exact rfl)))
        all_goals first | (simp; done) | (rw [List.take_of_length_le (l := List.map eI q.out) (by simp; omega)]; done) | (rw [List.take_of_length_le (l := List.map eI q.out) (by simp; omega), List.take_of_length_le (by simp; omega)]; simp; done) | (rw [List.take_of_length_le (by simp; omega)]; simp [List.map_set]; done) | trace_state
      · rw [if_pos (beq_iff_eq.1 b1)]
        rcases Nat.lt_or_ge 1 W.toNat with hw | hw
        · have d1 : decide ((W.toNat : Int) > 1) = true := decide_eq_true (by omega)
          have hq1 : 1 < q.out.length := by omega
          have g1' := get_some hq1
          have egd : q.out.getD 1 0 = q.out[1] := by simp [List.getD_eq_getElem?_getD, hq1]
          rw [if_pos hq1, egd]
          generalize q.out[1] = z at *
          have hq0 : 0 < q.out.length := by omega
          have g0' := get_some hq0
          simp -dsimp -implicitDefEqProofs only [go_sem, ↓reduceIte, Nat.reduceEqDiff, Nat.reduceLT, Nat.reduceAdd, Nat.reduceMul, Nat.reduceLeDiff, Nat.le_refl, Int.natCast_zero, Int.toNat_natCast, Int.reduceToNat, b0, b1, d1, g1', g0']
          ((repeat' (with_reducible refine And.intro ?_ ?_)); all_goals try (first | omega | (refine ⟨?_, ?_⟩ <;> omega) | (exact rfl)))
          all_goals first | (simp; done) | (rw [List.take_of_length_le (l := List.map eI q.out) (by simp; omega)]; done) | (rw [List.take_of_length_le (l := List.map eI q.out) (by simp; omega), List.take_of_length_le (by simp; omega)]; simp; done) | (rw [List.take_of_length_le (by simp; omega)]; simp [List.map_set]; done) | trace_state
        · have d1 : decide ((W.toNat : Int) > 1) = false := decide_eq_false (by omega)
          rw [if_neg (by omega)]
          simp -dsimp -implicitDefEqProofs only [go_sem, ↓reduceIte, Nat.reduceEqDiff, Nat.reduceLT, Nat.reduceAdd, Nat.reduceMul, Nat.reduceLeDiff, Nat.le_refl, Int.natCast_zero, Int.toNat_natCast, Int.reduceToNat, b0, b1, d1]
          ((repeat' (with_reducible refine And.intro ?_ ?_)); all_goals try (first | omega | (refine ⟨?_, ?_⟩ <;> omega) | (exact rfl)))
          all_goals first | (simp; done) | (rw [List.take_of_length_le (l := List.map eI q.out) (by simp; omega)]; done) | (rw [List.take_of_length_le (l := List.map eI q.out) (by simp; omega), List.take_of_length_le (by simp; omega)]; simp; done) | (rw [List.take_of_length_le (by simp; omega)]; simp [List.map_set]; done) | trace_state
end Go.Vc


/-
  Draws of picks.
-/
set_option linter.unusedVariables false
set_option linter.unusedSimpArgs false
set_option linter.unnecessarySimpa false
namespace Go.Vc
open Go.Proofs
set_option maxRecDepth 100000
set_option maxHeartbeats 4000000
def pkA (bs : List UInt8) (m : MkM) (s : Src) : PkM × Src :=
  (⟨(nx bs (if m.chambers > 1 then m.chambers else 1) s).1, (nx bs (if m.depths > 1 then m.depths else 1) (nx bs (if m.chambers > 1 then m.chambers else 1) s).2).1⟩,
    (nx bs (if m.depths > 1 then m.depths else 1) (nx bs (if m.chambers > 1 then m.chambers else 1) s).2).2)
def pkB2 (bs : List UInt8) (l : List (List Int)) (c d : Int) (b : Int × Src) : PkM × Src :=
  if b.1 > 0 then (⟨c, (cset l c).getD (nx bs (cset l c).length b.2).1.toNat 0⟩, (nx bs (cset l c).length b.2).2) else (⟨c, d⟩, b.2)
def pkB1 (bs : List UInt8) (l : List (List Int)) (o : List Int) (n : Nat) (p : PkM) (a : Int × Src) : PkM × Src :=
  if a.1 > 0 then pkB2 bs l (o.getD n 0) p.depth (nx bs 3 a.2) else (p, a.2)
def fitP (m : MkM) (l : List (List Int)) (o : List Int) (n : Nat) : Bool := isLk m l && decide (n < o.length) && ordOk m o
def pkB (bs : List UInt8) (m : MkM) (l : List (List Int)) (o : List Int) (n : Nat) (x : PkM × Src) : PkM × Src :=
  if fitP m l o n then pkB1 bs l o n x.1 (nx bs 4 x.2) else x
def pkC (bs : List UInt8) (m : MkM) (x : PkM) (a : Int × Src) : PkM × Src :=
  if a.1 = 0 then (⟨x.chamber, (pk bs [-1, m.depths] a.2).1⟩, (pk bs [-1, m.depths] a.2).2) else (x, a.2)
def pickD (bs : List UInt8) (m : MkM) (l : List (List Int)) (o : List Int) (n : Nat) (s : Src) : PkM × Src :=
  pkC bs m (pkB bs m l o n (pkA bs m s)).1 (nx bs 60 (pkB bs m l o n (pkA bs m s)).2)
theorem c_l32DrawPick (v : Nat) (bs : List UInt8) (m : MkM) (l : List (List Int)) (o : List Int) (n : Nat) (s : Src) (hm : MkB m) (hll : l.length ≤ 6) (hlx : ∀ x ∈ l, x.length ≤ 8) (ho : o.length ≤ 8) (h : SrcOk s) (hl : bs.length ≤ 4096) :
    FnM Try.prog 101 [srcB v bs s] [.ptr 1000000000 v 0 0, eMk m, eLk l, eIs o, eI n] (fun x io => x = eP (pickD bs m l o n s).1 ∧ io = [srcB v bs (pickD bs m l o n s).2]) := by
  refine FnM.of_vcN 75 [.cell 10 75] Try.func101 rfl rfl rfl rfl rfl (of_decide_eq_true rfl) ?_
  have hc := hm.c
  have hd := hm.d
  have n1 := nx_ok bs (if m.chambers > 1 then m.chambers else 1) h
  have q1 := fun v => c_l01Next v bs (if m.chambers > 1 then m.chambers else 1) _ h hl
  unfold pickD pkA
  generalize nx bs (if m.chambers > 1 then m.chambers else 1) s = a at *
  have n2 := nx_ok bs (if m.depths > 1 then m.depths else 1) n1.2.2.2
  have q2 := fun v => c_l01Next v bs (if m.depths > 1 then m.depths else 1) _ n1.2.2.2 hl
  generalize nx bs (if m.depths > 1 then m.depths else 1) a.2 = b at *
  generalize hX : pkB bs m l o n (⟨a.1, b.1⟩, b.2) = X
  have q3 := c_sIsLock m l (by omega) (fun x hx => by have := hlx x hx; omega)
  have n3 := nx_ok bs 4 n2.2.2.2
  have q5 := fun v => c_l01Next v bs 4 _ n2.2.2.2 hl
  unfold pkB at hX
  dsimp only at hX
  generalize nx bs 4 b.2 = c at *
  have n4 := nx_ok bs 3 n3.2.2.2
  have q6 := fun v => c_l01Next v bs 3 _ n3.2.2.2 hl
  unfold pkB1 at hX
  generalize nx bs 3 c.2 = d at *
  simp -dsimp -implicitDefEqProofs only [go_sem, ↓reduceIte, Nat.reduceEqDiff, Nat.reduceLT, Nat.reduceAdd, Nat.reduceMul, Nat.reduceLeDiff, Nat.le_refl, Int.natCast_zero, Int.toNat_natCast, Int.reduceToNat]
  refine Later.draw mixed rfl ?_
  simp -dsimp -implicitDefEqProofs only [go_sem, ↓reduceIte, Nat.reduceEqDiff, Nat.reduceLT, Nat.reduceAdd, Nat.reduceMul, Nat.reduceLeDiff, Nat.le_refl, Int.natCast_zero, Int.toNat_natCast, Int.reduceToNat]
  (refine sCallX_io [1000000000] rfl ?_; simp -dsimp -implicitDefEqProofs only [go_sem, ↓reduceIte, Nat.reduceEqDiff, Nat.reduceLT, Nat.reduceAdd, Nat.reduceMul, Nat.reduceLeDiff, Nat.le_refl, Int.natCast_zero, Int.toNat_natCast, Int.reduceToNat]; refine sCallMX_one (q1 _) ?_; simp -dsimp -implicitDefEqProofs only [go_sem, ↓reduceIte, Nat.reduceEqDiff, Nat.reduceLT, Nat.reduceAdd, Nat.reduceMul, Nat.reduceLeDiff, Nat.le_refl, Int.natCast_zero, Int.toNat_natCast, Int.reduceToNat])
  (refine sCallX_io [1000000000] rfl ?_; simp -dsimp -implicitDefEqProofs only [go_sem, ↓reduceIte, Nat.reduceEqDiff, Nat.reduceLT, Nat.reduceAdd, Nat.reduceMul, Nat.reduceLeDiff, Nat.le_refl, Int.natCast_zero, Int.toNat_natCast, Int.reduceToNat]; refine sCallMX_one (q2 _) ?_; simp -dsimp -implicitDefEqProofs only [go_sem, ↓reduceIte, Nat.reduceEqDiff, Nat.reduceLT, Nat.reduceAdd, Nat.reduceMul, Nat.reduceLeDiff, Nat.le_refl, Int.natCast_zero, Int.toNat_natCast, Int.reduceToNat])
  ((repeat' (with_reducible refine And.intro ?_ ?_)); all_goals try (first | omega | (refine ⟨?_, ?_⟩ <;> omega) | (exact rfl)))
  refine sCallT_one q3 ?_
  rcases hk : isLk m l with _ | _
  · rw [if_neg (by simp [fitP, hk])] at hX
    subst hX
    simp -dsimp -implicitDefEqProofs only [go_sem, ↓reduceIte, Nat.reduceEqDiff, Nat.reduceLT, Nat.reduceAdd, Nat.reduceMul, Nat.reduceLeDiff, Nat.le_refl, Int.natCast_zero, Int.toNat_natCast, Int.reduceToNat]
    (have t1 := (nx_ok bs 60 n2.2.2.2).2.2.2; have tq := fun v => c_l01Next v bs 60 _ n2.2.2.2 hl; dsimp only; unfold pkC; generalize nx bs 60 _ = z at *; have tp := fun v v2 => c_l01Pick v v2 true bs [-1, m.depths] _ z.2 rfl (by simp) (by simp) t1 hl; generalize pk bs [-1, m.depths] z.2 = y at *; (refine sCallT_io [1000000000] ?_; simp -dsimp -implicitDefEqProofs only [go_sem, ↓reduceIte, Nat.reduceEqDiff, Nat.reduceLT, Nat.reduceAdd, Nat.reduceMul, Nat.reduceLeDiff, Nat.le_refl, Int.natCast_zero, Int.toNat_natCast, Int.reduceToNat]; refine sCallM_one (tq _) ?_; simp -dsimp -implicitDefEqProofs only [go_sem, ↓reduceIte, Nat.reduceEqDiff, Nat.reduceLT, Nat.reduceAdd, Nat.reduceMul, Nat.reduceLeDiff, Nat.le_refl, Int.natCast_zero, Int.toNat_natCast, Int.reduceToNat]); rcases hz : (z.1 == 0) with _ | _; (rw [if_neg (beq_eq_false_iff_ne.1 hz)]; simp -dsimp -implicitDefEqProofs only [go_sem, ↓reduceIte, Nat.reduceEqDiff, Nat.reduceLT, Nat.reduceAdd, Nat.reduceMul, Nat.reduceLeDiff, Nat.le_refl, Int.natCast_zero, Int.toNat_natCast, Int.reduceToNat, hz]; ((repeat' (with_reducible refine And.intro ?_ ?_)); all_goals try (first | omega | (refine ⟨?_, ?_⟩ <;> omega) | (exact rfl)))); (rw [if_pos (beq_iff_eq.1 hz)]; simp -dsimp -implicitDefEqProofs only [go_sem, ↓reduceIte, Nat.reduceEqDiff, Nat.reduceLT, Nat.reduceAdd, Nat.reduceMul, Nat.reduceLeDiff, Nat.le_refl, Int.natCast_zero, Int.toNat_natCast, Int.reduceToNat, hz]; ((repeat' (with_reducible refine And.intro ?_ ?_)); all_goals try (first | omega | (refine ⟨?_, ?_⟩ <;> omega) | (exact rfl))); (refine sCallT_io [1000000000, 71] ?_; simp -dsimp -implicitDefEqProofs only [go_sem, ↓reduceIte, Nat.reduceEqDiff, Nat.reduceLT, Nat.reduceAdd, Nat.reduceMul, Nat.reduceLeDiff, Nat.le_refl, Int.natCast_zero, Int.toNat_natCast, Int.reduceToNat]; refine sCallM_one (tp _ _) ?_; simp -dsimp -implicitDefEqProofs only [go_sem, ↓reduceIte, Nat.reduceEqDiff, Nat.reduceLT, Nat.reduceAdd, Nat.reduceMul, Nat.reduceLeDiff, Nat.le_refl, Int.natCast_zero, Int.toNat_natCast, Int.reduceToNat]); ((repeat' (with_reducible refine And.intro ?_ ?_)); all_goals try (first | omega | (refine ⟨?_, ?_⟩ <;> omega) | (exact rfl)))))
  have hmk : isMk m = true := by
    simp only [isLk, Bool.and_eq_true] at hk
    exact hk.1
  have hnum := isMk_num hmk
  have q4 := c_l32Order m o hnum.1 (by omega)
  rcases Nat.lt_or_ge n o.length with hn | hn
  rotate_left
  · have hd0 : decide ((n : Int) < (o.length : Int)) = false := decide_eq_false (by omega)
    have hd2 : decide (n < o.length) = false := decide_eq_false (by omega)
    rw [if_neg (by simp [fitP, hd2])] at hX
    subst hX
    simp -dsimp -implicitDefEqProofs only [go_sem, ↓reduceIte, Nat.reduceEqDiff, Nat.reduceLT, Nat.reduceAdd, Nat.reduceMul, Nat.reduceLeDiff, Nat.le_refl, Int.natCast_zero, Int.toNat_natCast, Int.reduceToNat, hd0]
    (have t1 := (nx_ok bs 60 n2.2.2.2).2.2.2; have tq := fun v => c_l01Next v bs 60 _ n2.2.2.2 hl; dsimp only; unfold pkC; generalize nx bs 60 _ = z at *; have tp := fun v v2 => c_l01Pick v v2 true bs [-1, m.depths] _ z.2 rfl (by simp) (by simp) t1 hl; generalize pk bs [-1, m.depths] z.2 = y at *; (refine sCallT_io [1000000000] ?_; simp -dsimp -implicitDefEqProofs only [go_sem, ↓reduceIte, Nat.reduceEqDiff, Nat.reduceLT, Nat.reduceAdd, Nat.reduceMul, Nat.reduceLeDiff, Nat.le_refl, Int.natCast_zero, Int.toNat_natCast, Int.reduceToNat]; refine sCallM_one (tq _) ?_; simp -dsimp -implicitDefEqProofs only [go_sem, ↓reduceIte, Nat.reduceEqDiff, Nat.reduceLT, Nat.reduceAdd, Nat.reduceMul, Nat.reduceLeDiff, Nat.le_refl, Int.natCast_zero, Int.toNat_natCast, Int.reduceToNat]); rcases hz : (z.1 == 0) with _ | _; (rw [if_neg (beq_eq_false_iff_ne.1 hz)]; simp -dsimp -implicitDefEqProofs only [go_sem, ↓reduceIte, Nat.reduceEqDiff, Nat.reduceLT, Nat.reduceAdd, Nat.reduceMul, Nat.reduceLeDiff, Nat.le_refl, Int.natCast_zero, Int.toNat_natCast, Int.reduceToNat, hz]; ((repeat' (with_reducible refine And.intro ?_ ?_)); all_goals try (first | omega | (refine ⟨?_, ?_⟩ <;> omega) | (exact rfl)))); (rw [if_pos (beq_iff_eq.1 hz)]; simp -dsimp -implicitDefEqProofs only [go_sem, ↓reduceIte, Nat.reduceEqDiff, Nat.reduceLT, Nat.reduceAdd, Nat.reduceMul, Nat.reduceLeDiff, Nat.le_refl, Int.natCast_zero, Int.toNat_natCast, Int.reduceToNat, hz]; ((repeat' (with_reducible refine And.intro ?_ ?_)); all_goals try (first | omega | (refine ⟨?_, ?_⟩ <;> omega) | (exact rfl))); (refine sCallT_io [1000000000, 71] ?_; simp -dsimp -implicitDefEqProofs only [go_sem, ↓reduceIte, Nat.reduceEqDiff, Nat.reduceLT, Nat.reduceAdd, Nat.reduceMul, Nat.reduceLeDiff, Nat.le_refl, Int.natCast_zero, Int.toNat_natCast, Int.reduceToNat]; refine sCallM_one (tp _ _) ?_; simp -dsimp -implicitDefEqProofs only [go_sem, ↓reduceIte, Nat.reduceEqDiff, Nat.reduceLT, Nat.reduceAdd, Nat.reduceMul, Nat.reduceLeDiff, Nat.le_refl, Int.natCast_zero, Int.toNat_natCast, Int.reduceToNat]); ((repeat' (with_reducible refine And.intro ?_ ?_)); all_goals try (first | omega | (refine ⟨?_, ?_⟩ <;> omega) | (exact rfl)))))
  have hd1 : decide ((n : Int) < (o.length : Int)) = true := decide_eq_true (by omega)
  have hd2 : decide (n < o.length) = true := decide_eq_true (by omega)
  simp -dsimp -implicitDefEqProofs only [go_sem, ↓reduceIte, Nat.reduceEqDiff, Nat.reduceLT, Nat.reduceAdd, Nat.reduceMul, Nat.reduceLeDiff, Nat.le_refl, Int.natCast_zero, Int.toNat_natCast, Int.reduceToNat, hd1]
  refine sCallT_one q4 ?_
  rcases ho2 : ordOk m o with _ | _
  · rw [if_neg (by simp [fitP, ho2])] at hX
    subst hX
    simp -dsimp -implicitDefEqProofs only [go_sem, ↓reduceIte, Nat.reduceEqDiff, Nat.reduceLT, Nat.reduceAdd, Nat.reduceMul, Nat.reduceLeDiff, Nat.le_refl, Int.natCast_zero, Int.toNat_natCast, Int.reduceToNat]
    (have t1 := (nx_ok bs 60 n2.2.2.2).2.2.2; have tq := fun v => c_l01Next v bs 60 _ n2.2.2.2 hl; dsimp only; unfold pkC; generalize nx bs 60 _ = z at *; have tp := fun v v2 => c_l01Pick v v2 true bs [-1, m.depths] _ z.2 rfl (by simp) (by simp) t1 hl; generalize pk bs [-1, m.depths] z.2 = y at *; (refine sCallT_io [1000000000] ?_; simp -dsimp -implicitDefEqProofs only [go_sem, ↓reduceIte, Nat.reduceEqDiff, Nat.reduceLT, Nat.reduceAdd, Nat.reduceMul, Nat.reduceLeDiff, Nat.le_refl, Int.natCast_zero, Int.toNat_natCast, Int.reduceToNat]; refine sCallM_one (tq _) ?_; simp -dsimp -implicitDefEqProofs only [go_sem, ↓reduceIte, Nat.reduceEqDiff, Nat.reduceLT, Nat.reduceAdd, Nat.reduceMul, Nat.reduceLeDiff, Nat.le_refl, Int.natCast_zero, Int.toNat_natCast, Int.reduceToNat]); rcases hz : (z.1 == 0) with _ | _; (rw [if_neg (beq_eq_false_iff_ne.1 hz)]; simp -dsimp -implicitDefEqProofs only [go_sem, ↓reduceIte, Nat.reduceEqDiff, Nat.reduceLT, Nat.reduceAdd, Nat.reduceMul, Nat.reduceLeDiff, Nat.le_refl, Int.natCast_zero, Int.toNat_natCast, Int.reduceToNat, hz]; ((repeat' (with_reducible refine And.intro ?_ ?_)); all_goals try (first | omega | (refine ⟨?_, ?_⟩ <;> omega) | (exact rfl)))); (rw [if_pos (beq_iff_eq.1 hz)]; simp -dsimp -implicitDefEqProofs only [go_sem, ↓reduceIte, Nat.reduceEqDiff, Nat.reduceLT, Nat.reduceAdd, Nat.reduceMul, Nat.reduceLeDiff, Nat.le_refl, Int.natCast_zero, Int.toNat_natCast, Int.reduceToNat, hz]; ((repeat' (with_reducible refine And.intro ?_ ?_)); all_goals try (first | omega | (refine ⟨?_, ?_⟩ <;> omega) | (exact rfl))); (refine sCallT_io [1000000000, 71] ?_; simp -dsimp -implicitDefEqProofs only [go_sem, ↓reduceIte, Nat.reduceEqDiff, Nat.reduceLT, Nat.reduceAdd, Nat.reduceMul, Nat.reduceLeDiff, Nat.le_refl, Int.natCast_zero, Int.toNat_natCast, Int.reduceToNat]; refine sCallM_one (tp _ _) ?_; simp -dsimp -implicitDefEqProofs only [go_sem, ↓reduceIte, Nat.reduceEqDiff, Nat.reduceLT, Nat.reduceAdd, Nat.reduceMul, Nat.reduceLeDiff, Nat.le_refl, Int.natCast_zero, Int.toNat_natCast, Int.reduceToNat]); ((repeat' (with_reducible refine And.intro ?_ ?_)); all_goals try (first | omega | (refine ⟨?_, ?_⟩ <;> omega) | (exact rfl)))))
  have ph := Pk.of hk ho2
  rw [if_pos (by simp [fitP, hk, hd2, ho2])] at hX
  simp -dsimp -implicitDefEqProofs only [go_sem, ↓reduceIte, Nat.reduceEqDiff, Nat.reduceLT, Nat.reduceAdd, Nat.reduceMul, Nat.reduceLeDiff, Nat.le_refl, Int.natCast_zero, Int.toNat_natCast, Int.reduceToNat]
  (refine sCallT_io [1000000000] ?_; simp -dsimp -implicitDefEqProofs only [go_sem, ↓reduceIte, Nat.reduceEqDiff, Nat.reduceLT, Nat.reduceAdd, Nat.reduceMul, Nat.reduceLeDiff, Nat.le_refl, Int.natCast_zero, Int.toNat_natCast, Int.reduceToNat]; refine sCallM_one (q5 _) ?_; simp -dsimp -implicitDefEqProofs only [go_sem, ↓reduceIte, Nat.reduceEqDiff, Nat.reduceLT, Nat.reduceAdd, Nat.reduceMul, Nat.reduceLeDiff, Nat.le_refl, Int.natCast_zero, Int.toNat_natCast, Int.reduceToNat])
  rcases hc0 : decide (c.1 > 0) with _ | _
  · rw [if_neg (of_decide_eq_false hc0)] at hX
    subst hX
    simp -dsimp -implicitDefEqProofs only [go_sem, ↓reduceIte, Nat.reduceEqDiff, Nat.reduceLT, Nat.reduceAdd, Nat.reduceMul, Nat.reduceLeDiff, Nat.le_refl, Int.natCast_zero, Int.toNat_natCast, Int.reduceToNat, hc0]
    (have t1 := (nx_ok bs 60 n3.2.2.2).2.2.2; have tq := fun v => c_l01Next v bs 60 _ n3.2.2.2 hl; dsimp only; unfold pkC; generalize nx bs 60 _ = z at *; have tp := fun v v2 => c_l01Pick v v2 true bs [-1, m.depths] _ z.2 rfl (by simp) (by simp) t1 hl; generalize pk bs [-1, m.depths] z.2 = y at *; (refine sCallT_io [1000000000] ?_; simp -dsimp -implicitDefEqProofs only [go_sem, ↓reduceIte, Nat.reduceEqDiff, Nat.reduceLT, Nat.reduceAdd, Nat.reduceMul, Nat.reduceLeDiff, Nat.le_refl, Int.natCast_zero, Int.toNat_natCast, Int.reduceToNat]; refine sCallM_one (tq _) ?_; simp -dsimp -implicitDefEqProofs only [go_sem, ↓reduceIte, Nat.reduceEqDiff, Nat.reduceLT, Nat.reduceAdd, Nat.reduceMul, Nat.reduceLeDiff, Nat.le_refl, Int.natCast_zero, Int.toNat_natCast, Int.reduceToNat]); rcases hz : (z.1 == 0) with _ | _; (rw [if_neg (beq_eq_false_iff_ne.1 hz)]; simp -dsimp -implicitDefEqProofs only [go_sem, ↓reduceIte, Nat.reduceEqDiff, Nat.reduceLT, Nat.reduceAdd, Nat.reduceMul, Nat.reduceLeDiff, Nat.le_refl, Int.natCast_zero, Int.toNat_natCast, Int.reduceToNat, hz]; ((repeat' (with_reducible refine And.intro ?_ ?_)); all_goals try (first | omega | (refine ⟨?_, ?_⟩ <;> omega) | (exact rfl)))); (rw [if_pos (beq_iff_eq.1 hz)]; simp -dsimp -implicitDefEqProofs only [go_sem, ↓reduceIte, Nat.reduceEqDiff, Nat.reduceLT, Nat.reduceAdd, Nat.reduceMul, Nat.reduceLeDiff, Nat.le_refl, Int.natCast_zero, Int.toNat_natCast, Int.reduceToNat, hz]; ((repeat' (with_reducible refine And.intro ?_ ?_)); all_goals try (first | omega | (refine ⟨?_, ?_⟩ <;> omega) | (exact rfl))); (refine sCallT_io [1000000000, 71] ?_; simp -dsimp -implicitDefEqProofs only [go_sem, ↓reduceIte, Nat.reduceEqDiff, Nat.reduceLT, Nat.reduceAdd, Nat.reduceMul, Nat.reduceLeDiff, Nat.le_refl, Int.natCast_zero, Int.toNat_natCast, Int.reduceToNat]; refine sCallM_one (tp _ _) ?_; simp -dsimp -implicitDefEqProofs only [go_sem, ↓reduceIte, Nat.reduceEqDiff, Nat.reduceLT, Nat.reduceAdd, Nat.reduceMul, Nat.reduceLeDiff, Nat.le_refl, Int.natCast_zero, Int.toNat_natCast, Int.reduceToNat]); ((repeat' (with_reducible refine And.intro ?_ ?_)); all_goals try (first | omega | (refine ⟨?_, ?_⟩ <;> omega) | (exact rfl)))))
  rw [if_pos (of_decide_eq_true hc0)] at hX
  have hio := ph.io n hn
  have go := get_some hn
  have egd : o.getD n 0 = o[n] := by simp [List.getD_eq_getElem?_getD, hn]
  obtain ⟨hx, ec⟩   := ph.cset hio.1 hio.2
  have hst := (ph.st _ hx).1
  rw [egd] at hX
  unfold pkB2 at hX
  rw [ec] at hX
  generalize o[n] = ch at *
  have gl := get_some hx
  have hx8 := hlx _ (List.getElem_mem hx)
  generalize l[ch.toNat] = set at *
  simp -dsimp -implicitDefEqProofs only [go_sem, ↓reduceIte, Nat.reduceEqDiff, Nat.reduceLT, Nat.reduceAdd, Nat.reduceMul, Nat.reduceLeDiff, Nat.le_refl, Int.natCast_zero, Int.toNat_natCast, Int.reduceToNat, hc0, go]
  ((repeat' (with_reducible refine And.intro ?_ ?_)); all_goals try (first | omega | (refine ⟨?_, ?_⟩ <;> omega) | (exact rfl)))
  (refine sCallT_io [1000000000] ?_; simp -dsimp -implicitDefEqProofs only [go_sem, ↓reduceIte, Nat.reduceEqDiff, Nat.reduceLT, Nat.reduceAdd, Nat.reduceMul, Nat.reduceLeDiff, Nat.le_refl, Int.natCast_zero, Int.toNat_natCast, Int.reduceToNat]; refine sCallM_one (q6 _) ?_; simp -dsimp -implicitDefEqProofs only [go_sem, ↓reduceIte, Nat.reduceEqDiff, Nat.reduceLT, Nat.reduceAdd, Nat.reduceMul, Nat.reduceLeDiff, Nat.le_refl, Int.natCast_zero, Int.toNat_natCast, Int.reduceToNat])
  rcases hd3 : decide (d.1 > 0) with _ | _
  · rw [if_neg (of_decide_eq_false hd3)] at hX
    subst hX
    simp -dsimp -implicitDefEqProofs only [go_sem, ↓reduceIte, Nat.reduceEqDiff, Nat.reduceLT, Nat.reduceAdd, Nat.reduceMul, Nat.reduceLeDiff, Nat.le_refl, Int.natCast_zero, Int.toNat_natCast, Int.reduceToNat, hd3]
    (have t1 := (nx_ok bs 60 n4.2.2.2).2.2.2; have tq := fun v => c_l01Next v bs 60 _ n4.2.2.2 hl; dsimp only; unfold pkC; generalize nx bs 60 _ = z at *; have tp := fun v v2 => c_l01Pick v v2 true bs [-1, m.depths] _ z.2 rfl (by simp) (by simp) t1 hl; generalize pk bs [-1, m.depths] z.2 = y at *; (refine sCallT_io [1000000000] ?_; simp -dsimp -implicitDefEqProofs only [go_sem, ↓reduceIte, Nat.reduceEqDiff, Nat.reduceLT, Nat.reduceAdd, Nat.reduceMul, Nat.reduceLeDiff, Nat.le_refl, Int.natCast_zero, Int.toNat_natCast, Int.reduceToNat]; refine sCallM_one (tq _) ?_; simp -dsimp -implicitDefEqProofs only [go_sem, ↓reduceIte, Nat.reduceEqDiff, Nat.reduceLT, Nat.reduceAdd, Nat.reduceMul, Nat.reduceLeDiff, Nat.le_refl, Int.natCast_zero, Int.toNat_natCast, Int.reduceToNat]); rcases hz : (z.1 == 0) with _ | _; (rw [if_neg (beq_eq_false_iff_ne.1 hz)]; simp -dsimp -implicitDefEqProofs only [go_sem, ↓reduceIte, Nat.reduceEqDiff, Nat.reduceLT, Nat.reduceAdd, Nat.reduceMul, Nat.reduceLeDiff, Nat.le_refl, Int.natCast_zero, Int.toNat_natCast, Int.reduceToNat, hz]; ((repeat' (with_reducible refine And.intro ?_ ?_)); all_goals try (first | omega | (refine ⟨?_, ?_⟩ <;> omega) | (exact rfl)))); (rw [if_pos (beq_iff_eq.1 hz)]; simp -dsimp -implicitDefEqProofs only [go_sem, ↓reduceIte, Nat.reduceEqDiff, Nat.reduceLT, Nat.reduceAdd, Nat.reduceMul, Nat.reduceLeDiff, Nat.le_refl, Int.natCast_zero, Int.toNat_natCast, Int.reduceToNat, hz]; ((repeat' (with_reducible refine And.intro ?_ ?_)); all_goals try (first | omega | (refine ⟨?_, ?_⟩ <;> omega) | (exact rfl))); (refine sCallT_io [1000000000, 71] ?_; simp -dsimp -implicitDefEqProofs only [go_sem, ↓reduceIte, Nat.reduceEqDiff, Nat.reduceLT, Nat.reduceAdd, Nat.reduceMul, Nat.reduceLeDiff, Nat.le_refl, Int.natCast_zero, Int.toNat_natCast, Int.reduceToNat]; refine sCallM_one (tp _ _) ?_; simp -dsimp -implicitDefEqProofs only [go_sem, ↓reduceIte, Nat.reduceEqDiff, Nat.reduceLT, Nat.reduceAdd, Nat.reduceMul, Nat.reduceLeDiff, Nat.le_refl, Int.natCast_zero, Int.toNat_natCast, Int.reduceToNat]); ((repeat' (with_reducible refine And.intro ?_ ?_)); all_goals try (first | omega | (refine ⟨?_, ?_⟩ <;> omega) | (exact rfl)))))
  rw [if_pos (of_decide_eq_true hd3)] at hX
  have n6 := nx_lt (bs := bs) n4.2.2.2 hst
  have n7 := (nx_ok bs set.length n4.2.2.2).2.2.2
  have q7 := fun v => c_l01Next v bs set.length _ n4.2.2.2 hl
  have gs := get_some n6.2.2
  have egs : set.getD (nx bs set.length d.2).1.toNat 0 = set[(nx bs set.length d.2).1.toNat] := by simp [List.getD_eq_getElem?_getD, n6.2.2]
  rw [egs] at hX
  generalize set[(nx bs set.length d.2).1.toNat] = dep at *
  generalize nx bs set.length d.2 = e at *
  subst hX
  simp -dsimp -implicitDefEqProofs only [go_sem, ↓reduceIte, Nat.reduceEqDiff, Nat.reduceLT, Nat.reduceAdd, Nat.reduceMul, Nat.reduceLeDiff, Nat.le_refl, Int.natCast_zero, Int.toNat_natCast, Int.reduceToNat, hd3, gl]
  ((repeat' (with_reducible refine And.intro ?_ ?_)); all_goals try (first | omega | (refine ⟨?_, ?_⟩ <;> omega) | (exact rfl)))
  (refine sCallT_io [1000000000] ?_; simp -dsimp -implicitDefEqProofs only [go_sem, ↓reduceIte, Nat.reduceEqDiff, Nat.reduceLT, Nat.reduceAdd, Nat.reduceMul, Nat.reduceLeDiff, Nat.le_refl, Int.natCast_zero, Int.toNat_natCast, Int.reduceToNat]; refine sCallM_one (q7 _) ?_; simp -dsimp -implicitDefEqProofs only [go_sem, ↓reduceIte, Nat.reduceEqDiff, Nat.reduceLT, Nat.reduceAdd, Nat.reduceMul, Nat.reduceLeDiff, Nat.le_refl, Int.natCast_zero, Int.toNat_natCast, Int.reduceToNat])
  simp -dsimp -implicitDefEqProofs only [go_sem, ↓reduceIte, Nat.reduceEqDiff, Nat.reduceLT, Nat.reduceAdd, Nat.reduceMul, Nat.reduceLeDiff, Nat.le_refl, Int.natCast_zero, Int.toNat_natCast, Int.reduceToNat, gs]
  ((repeat' (with_reducible refine And.intro ?_ ?_)); all_goals try (first | omega | (refine ⟨?_, ?_⟩ <;> omega) | (exact rfl)))
  (have t1 := (nx_ok bs 60 n7).2.2.2; have tq := fun v => c_l01Next v bs 60 _ n7 hl; dsimp only; unfold pkC; generalize nx bs 60 _ = z at *; have tp := fun v v2 => c_l01Pick v v2 true bs [-1, m.depths] _ z.2 rfl (by simp) (by simp) t1 hl; generalize pk bs [-1, m.depths] z.2 = y at *; (refine sCallT_io [1000000000] ?_; simp -dsimp -implicitDefEqProofs only [go_sem, ↓reduceIte, Nat.reduceEqDiff, Nat.reduceLT, Nat.reduceAdd, Nat.reduceMul, Nat.reduceLeDiff, Nat.le_refl, Int.natCast_zero, Int.toNat_natCast, Int.reduceToNat]; refine sCallM_one (tq _) ?_; simp -dsimp -implicitDefEqProofs only [go_sem, ↓reduceIte, Nat.reduceEqDiff, Nat.reduceLT, Nat.reduceAdd, Nat.reduceMul, Nat.reduceLeDiff, Nat.le_refl, Int.natCast_zero, Int.toNat_natCast, Int.reduceToNat]); rcases hz : (z.1 == 0) with _ | _; (rw [if_neg (beq_eq_false_iff_ne.1 hz)]; simp -dsimp -implicitDefEqProofs only [go_sem, ↓reduceIte, Nat.reduceEqDiff, Nat.reduceLT, Nat.reduceAdd, Nat.reduceMul, Nat.reduceLeDiff, Nat.le_refl, Int.natCast_zero, Int.toNat_natCast, Int.reduceToNat, hz]; ((repeat' (with_reducible refine And.intro ?_ ?_)); all_goals try (first | omega | (refine ⟨?_, ?_⟩ <;> omega) | (exact rfl)))); (rw [if_pos (beq_iff_eq.1 hz)]; simp -dsimp -implicitDefEqProofs only [go_sem, ↓reduceIte, Nat.reduceEqDiff, Nat.reduceLT, Nat.reduceAdd, Nat.reduceMul, Nat.reduceLeDiff, Nat.le_refl, Int.natCast_zero, Int.toNat_natCast, Int.reduceToNat, hz]; ((repeat' (with_reducible refine And.intro ?_ ?_)); all_goals try (first | omega | (refine ⟨?_, ?_⟩ <;> omega) | (exact rfl))); (refine sCallT_io [1000000000, 71] ?_; simp -dsimp -implicitDefEqProofs only [go_sem, ↓reduceIte, Nat.reduceEqDiff, Nat.reduceLT, Nat.reduceAdd, Nat.reduceMul, Nat.reduceLeDiff, Nat.le_refl, Int.natCast_zero, Int.toNat_natCast, Int.reduceToNat]; refine sCallM_one (tp _ _) ?_; simp -dsimp -implicitDefEqProofs only [go_sem, ↓reduceIte, Nat.reduceEqDiff, Nat.reduceLT, Nat.reduceAdd, Nat.reduceMul, Nat.reduceLeDiff, Nat.le_refl, Int.natCast_zero, Int.toNat_natCast, Int.reduceToNat]); ((repeat' (with_reducible refine And.intro ?_ ?_)); all_goals try (first | omega | (refine ⟨?_, ?_⟩ <;> omega) | (exact rfl)))))
end Go.Vc


/-
  Contracts of the functions on picking: many picks, by the reference.
-/
set_option linter.unusedVariables false
set_option linter.unusedSimpArgs false
set_option linter.unnecessarySimpa false
namespace Go.Vc
open Go.Proofs
set_option maxRecDepth 100000
theorem runS_step {l : List (List Int)} {o : List Int} {ps : List PkM} {i : Nat} (hi : i < ps.length) {n' : Nat} {b : Bool} (q2 : pickN l o (runS l o ps i).n ps[i] = n') (q3 : hit l o (runS l o ps i).n ps[i] = b) :
    runS l o ps (i + 1) = ⟨n', if b then (runS l o ps i).cuts.set ps[i].chamber.toNat ps[i].depth else (runS l o ps i).cuts, if n' < (runS l o ps i).n then (runS l o ps i).falls + 1 else (runS l o ps i).falls⟩ := by
  rw [runS_succ _ _ _ _ hi, pickS, q2, q3]
theorem ps_num {m : MkM} {o : List Int} {ps : List PkM} (hch : (o.length : Int) = m.chambers) (h : ps.all (pickOk m) = true) {i : Nat} (hi : i < ps.length) : 0 ≤ ps[i].chamber ∧ ps[i].chamber < o.length :=
  pickOk_num hch (List.all_eq_true.1 h _ (List.getElem_mem hi))
end Go.Vc


/-
  Draws of locks with orders and picks.
-/
set_option linter.unusedVariables false
set_option linter.unusedSimpArgs false
set_option linter.unnecessarySimpa false
namespace Go.Vc
open Go.Proofs
set_option maxRecDepth 100000
set_option maxHeartbeats 4000000
theorem lkD_facts {bs : List UInt8} {s : Src} (h : SrcOk s) : MkB (lkD bs s).1 ∧ (lkD bs s).2.1.length ≤ 6 ∧ (∀ x ∈ (lkD bs s).2.1, x.length ≤ 8) ∧ SrcOk (lkD bs s).2.2 := by
  obtain ⟨k1, k2, k3⟩ := lkD_ok (bs := bs) h
  have k4 := mkD_bnd bs h
  have e : (lkD bs s).1 = (mkD bs s).1 := by unfold lkD; split <;> rfl
  rw [← e] at k4
  exact ⟨k4, k2, k3, k1⟩
/-- picks that are drawn: those so far, how many chambers are set, the source -/
structure QSt where
  ps : List PkM
  n : Nat
  src : Src
theorem c_DrawFewestPicks (bs : List UInt8) (hl : bs.length ≤ 4096) : Fn Try.prog 49 [eYs bs] false (· = .tup [eMk (lkD bs (src0 bs)).1, eLk (lkD bs (src0 bs)).2.1, eIs (ordD bs (lkD bs (src0 bs)).1 (lkD bs (src0 bs)).2.2).1]) := by
  refine Fn.of_vcS 20 [.cell 2 43, .cell 3 45, .tmp 4] Try.func49 rfl rfl rfl rfl rfl (of_decide_eq_true rfl) ?_
  simp -dsimp -implicitDefEqProofs only [go_sem, ↓reduceIte, Nat.reduceEqDiff, Nat.reduceLT, Nat.reduceAdd, Nat.reduceMul, Nat.reduceLeDiff, Nat.le_refl, Int.natCast_zero, Int.toNat_natCast, Int.reduceToNat]
  (refine sCallT_inl 900000 34 [.tmp 2] Try.func61 rfl rfl rfl rfl rfl (by exact of_decide_eq_true rfl) ?_; simp -dsimp -implicitDefEqProofs only [go_sem, ↓reduceIte, Nat.reduceEqDiff, Nat.reduceLT, Nat.reduceAdd, Nat.reduceMul, Nat.reduceLeDiff, Nat.le_refl, Int.natCast_zero, Int.toNat_natCast, Int.reduceToNat]; refine Later.up [0, 3] [10] [7] (min bs.length 64) (fun _ => True) (fun i => [(4, eI i)]) (fun i => [(7, srcB 0 bs ⟨seedAt bs i, 0⟩)]) trivial ?_ rfl (fun i hi _ => ?_) (fun _ => ?_))
  · simp -dsimp -implicitDefEqProofs only [go_sem, ↓reduceIte, Nat.reduceEqDiff, Nat.reduceLT, Nat.reduceAdd, Nat.reduceMul, Nat.reduceLeDiff, Nat.le_refl, Int.natCast_zero, Int.toNat_natCast, Int.reduceToNat]
    simp [seedAt]
  · ((have h1 : i < bs.length := by omega); (have h2 : i < 64 := by omega); (have hs := seedAt_ok bs i); (have hb := (bs[i]).toNat_lt); (have d1 := lt_len h1); (have d2 : decide ((i : Int) < 64) = true := decide_eq_true (by omega)); (have g1 := get_some h1); (have e1 := seedAt_succ h1); simp -dsimp -implicitDefEqProofs only [pick_nil, pick_cons, look_nil, look_cons, dropB_nil, dropB_cons, inD_nil, inD_cons, inE_nil, inE_cons, or_t_l, or_f_l, Nat.reduceBEq, Nat.reduceDiv, Nat.reduceAdd, beq_self_eq_true, Bool.false_eq_true, Bool.or_false, ↓reduceIte, Nat.reduceEqDiff, List.cons_append, List.nil_append]; rw [e1]; generalize bs[i] = b at *; generalize seedAt bs i = z at *; simp -dsimp -implicitDefEqProofs only [go_sem, ↓reduceIte, Nat.reduceEqDiff, Nat.reduceLT, Nat.reduceAdd, Nat.reduceMul, Nat.reduceLeDiff, Nat.le_refl, Int.natCast_zero, Int.toNat_natCast, Int.reduceToNat, d1, d2]; refine Later.draw mixed rfl ?_; simp -dsimp -implicitDefEqProofs only [go_sem, ↓reduceIte, Nat.reduceEqDiff, Nat.reduceLT, Nat.reduceAdd, Nat.reduceMul, Nat.reduceLeDiff, Nat.le_refl, Int.natCast_zero, Int.toNat_natCast, Int.reduceToNat, g1]; (repeat' (with_reducible refine And.intro ?_ ?_)); all_goals (first | omega | (refine ⟨?_, ?_⟩ <;> omega) | (exact rfl) | (simp; done) | trace_state))
  (have hs := src0_ok bs); (have hq : (⟨seedAt bs (min bs.length 64), 0⟩ : Src) = src0 bs := rfl); rw [hq]; clear hq; generalize src0 bs = s at *; (have d64 : decide (((64 : Nat) : Int) < 64) = false := rfl)
  obtain ⟨k1, k2, k3, k4⟩ := lkD_facts (bs := bs) hs
  have q1 := fun v => c_l04Draw v bs s hs hl
  generalize lkD bs s = p at *
  have q2 := fun v => c_l32DrawOrder v bs p.1 _ k1 k4 hl
  have ho := ordD_ok (bs := bs) k1 k4
  generalize ordD bs p.1 p.2.2 = o at *
  rcases Nat.lt_or_ge 64 bs.length with h64 | h64
  case' inl => (rw [Nat.min_eq_right (Nat.le_of_lt h64)]; simp -dsimp -implicitDefEqProofs only [pick_nil, pick_cons, look_nil, look_cons, dropB_nil, dropB_cons, inD_nil, inD_cons, inE_nil, inE_cons, or_t_l, or_f_l, Nat.reduceBEq, Nat.reduceDiv, Nat.reduceAdd, beq_self_eq_true, Bool.false_eq_true, Bool.or_false, ↓reduceIte, Nat.reduceEqDiff, List.cons_append, List.nil_append]; simp -dsimp -implicitDefEqProofs only [go_sem, ↓reduceIte, Nat.reduceEqDiff, Nat.reduceLT, Nat.reduceAdd, Nat.reduceMul, Nat.reduceLeDiff, Nat.le_refl, Int.natCast_zero, Int.toNat_natCast, Int.reduceToNat, lt_len h64, d64])
  case' inr => (rw [Nat.min_eq_left h64]; simp -dsimp -implicitDefEqProofs only [pick_nil, pick_cons, look_nil, look_cons, dropB_nil, dropB_cons, inD_nil, inD_cons, inE_nil, inE_cons, or_t_l, or_f_l, Nat.reduceBEq, Nat.reduceDiv, Nat.reduceAdd, beq_self_eq_true, Bool.false_eq_true, Bool.or_false, ↓reduceIte, Nat.reduceEqDiff, List.cons_append, List.nil_append]; simp -dsimp -implicitDefEqProofs only [go_sem, ↓reduceIte, Nat.reduceEqDiff, Nat.reduceLT, Nat.reduceAdd, Nat.reduceMul, Nat.reduceLeDiff, Nat.le_refl, Int.natCast_zero, Int.toNat_natCast, Int.reduceToNat, nlt_len])
  all_goals
    (refine sCallT_ioR [900007] ?_; simp -dsimp -implicitDefEqProofs only [go_sem, ↓reduceIte, Nat.reduceEqDiff, Nat.reduceLT, Nat.reduceAdd, Nat.reduceMul, Nat.reduceLeDiff, Nat.le_refl, Int.natCast_zero, Int.toNat_natCast, Int.reduceToNat]; refine sCallMR_any (q1 _) ?_; rintro _ _ ⟨rfl, rfl⟩; simp -dsimp -implicitDefEqProofs only [go_sem, ↓reduceIte, Nat.reduceEqDiff, Nat.reduceLT, Nat.reduceAdd, Nat.reduceMul, Nat.reduceLeDiff, Nat.le_refl, Int.natCast_zero, Int.toNat_natCast, Int.reduceToNat])
    refine Later.draw mixed rfl ?_
    simp -dsimp -implicitDefEqProofs only [go_sem, ↓reduceIte, Nat.reduceEqDiff, Nat.reduceLT, Nat.reduceAdd, Nat.reduceMul, Nat.reduceLeDiff, Nat.le_refl, Int.natCast_zero, Int.toNat_natCast, Int.reduceToNat]
    (refine sCallX_io [900007] rfl ?_; simp -dsimp -implicitDefEqProofs only [go_sem, ↓reduceIte, Nat.reduceEqDiff, Nat.reduceLT, Nat.reduceAdd, Nat.reduceMul, Nat.reduceLeDiff, Nat.le_refl, Int.natCast_zero, Int.toNat_natCast, Int.reduceToNat]; refine sCallMX_one (q2 _) ?_; simp -dsimp -implicitDefEqProofs only [go_sem, ↓reduceIte, Nat.reduceEqDiff, Nat.reduceLT, Nat.reduceAdd, Nat.reduceMul, Nat.reduceLeDiff, Nat.le_refl, Int.natCast_zero, Int.toNat_natCast, Int.reduceToNat])
    ((repeat' (with_reducible refine And.intro ?_ ?_)); all_goals try (first | omega | (refine ⟨?_, ?_⟩ <;> omega) | (exact rfl)))
def bindD1 (bs : List UInt8) (o : List Int) (s : Src) : List Int × Src := (rowsL (o.take (nx bs ((o.length : Int) + 1) s).1.toNat), (nx bs ((o.length : Int) + 1) s).2)
def bindD2 (bs : List UInt8) (st : List Int) (a : Int × Src) : List Int := if a.1 = 0 then st ++ [(pk bs [0, 1, 9] a.2).1] else st
def bindD (bs : List UInt8) (o : List Int) (s : Src) : List Int := bindD2 bs (bindD1 bs o s).1 (nx bs 20 (bindD1 bs o s).2)
theorem bindD_len {bs : List UInt8} {o : List Int} {s : Src} (ho : o.length ≤ 8) : (bindD bs o s).length ≤ 9 := by
  have : (bindD1 bs o s).1.length ≤ 8 := by
    unfold bindD1
    refine Nat.le_trans (rowsL_len _) ?_
    simp; omega
  unfold bindD bindD2
  split
  · simp; omega
  · omega
theorem c_DrawBindingChamber (bs : List UInt8) (hl : bs.length ≤ 4096) : Fn Try.prog 57 [eYs bs] false (· = .tup [eMk (lkD bs (src0 bs)).1, eLk (lkD bs (src0 bs)).2.1, eIs (ordD bs (lkD bs (src0 bs)).1 (lkD bs (src0 bs)).2.2).1, eIs (bindD bs (ordD bs (lkD bs (src0 bs)).1 (lkD bs (src0 bs)).2.2).1 (ordD bs (lkD bs (src0 bs)).1 (lkD bs (src0 bs)).2.2).2)]) := by
  refine Fn.of_vcS 42 [.cell 2 43, .cell 3 45, .tmp 4, .tmp 5] Try.func57 rfl rfl rfl rfl rfl (of_decide_eq_true rfl) ?_
  simp -dsimp -implicitDefEqProofs only [go_sem, ↓reduceIte, Nat.reduceEqDiff, Nat.reduceLT, Nat.reduceAdd, Nat.reduceMul, Nat.reduceLeDiff, Nat.le_refl, Int.natCast_zero, Int.toNat_natCast, Int.reduceToNat]
  (refine sCallT_inl 900000 34 [.tmp 2] Try.func61 rfl rfl rfl rfl rfl (by exact of_decide_eq_true rfl) ?_; simp -dsimp -implicitDefEqProofs only [go_sem, ↓reduceIte, Nat.reduceEqDiff, Nat.reduceLT, Nat.reduceAdd, Nat.reduceMul, Nat.reduceLeDiff, Nat.le_refl, Int.natCast_zero, Int.toNat_natCast, Int.reduceToNat]; refine Later.up [0, 3] [10] [7] (min bs.length 64) (fun _ => True) (fun i => [(4, eI i)]) (fun i => [(7, srcB 0 bs ⟨seedAt bs i, 0⟩)]) trivial ?_ rfl (fun i hi _ => ?_) (fun _ => ?_))
  · simp -dsimp -implicitDefEqProofs only [go_sem, ↓reduceIte, Nat.reduceEqDiff, Nat.reduceLT, Nat.reduceAdd, Nat.reduceMul, Nat.reduceLeDiff, Nat.le_refl, Int.natCast_zero, Int.toNat_natCast, Int.reduceToNat]
    simp [seedAt]
  · ((have h1 : i < bs.length := by omega); (have h2 : i < 64 := by omega); (have hs := seedAt_ok bs i); (have hb := (bs[i]).toNat_lt); (have d1 := lt_len h1); (have d2 : decide ((i : Int) < 64) = true := decide_eq_true (by omega)); (have g1 := get_some h1); (have e1 := seedAt_succ h1); simp -dsimp -implicitDefEqProofs only [pick_nil, pick_cons, look_nil, look_cons, dropB_nil, dropB_cons, inD_nil, inD_cons, inE_nil, inE_cons, or_t_l, or_f_l, Nat.reduceBEq, Nat.reduceDiv, Nat.reduceAdd, beq_self_eq_true, Bool.false_eq_true, Bool.or_false, ↓reduceIte, Nat.reduceEqDiff, List.cons_append, List.nil_append]; rw [e1]; generalize bs[i] = b at *; generalize seedAt bs i = z at *; simp -dsimp -implicitDefEqProofs only [go_sem, ↓reduceIte, Nat.reduceEqDiff, Nat.reduceLT, Nat.reduceAdd, Nat.reduceMul, Nat.reduceLeDiff, Nat.le_refl, Int.natCast_zero, Int.toNat_natCast, Int.reduceToNat, d1, d2]; refine Later.draw mixed rfl ?_; simp -dsimp -implicitDefEqProofs only [go_sem, ↓reduceIte, Nat.reduceEqDiff, Nat.reduceLT, Nat.reduceAdd, Nat.reduceMul, Nat.reduceLeDiff, Nat.le_refl, Int.natCast_zero, Int.toNat_natCast, Int.reduceToNat, g1]; (repeat' (with_reducible refine And.intro ?_ ?_)); all_goals (first | omega | (refine ⟨?_, ?_⟩ <;> omega) | (exact rfl) | (simp; done) | trace_state))
  (have hs := src0_ok bs); (have hq : (⟨seedAt bs (min bs.length 64), 0⟩ : Src) = src0 bs := rfl); rw [hq]; clear hq; generalize src0 bs = s at *; (have d64 : decide (((64 : Nat) : Int) < 64) = false := rfl)
  obtain ⟨k1, k2, k3, k4⟩ := lkD_facts (bs := bs) hs
  have q1 := fun v => c_l04Draw v bs s hs hl
  generalize lkD bs s = p at *
  have q2 := fun v => c_l32DrawOrder v bs p.1 _ k1 k4 hl
  have ho := ordD_ok (bs := bs) k1 k4
  generalize ordD bs p.1 p.2.2 = o at *
  obtain ⟨ho1, ho2, ho3⟩ := ho
  have n1 := nx_ok bs ((o.1.length : Int) + 1) ho1
  have q3 := fun v => c_l01Next v bs ((o.1.length : Int) + 1) _ ho1 hl
  have n1' : (nx bs ((o.1.length : Int) + 1) o.2).1 ≤ o.1.length := by
    by_cases hz : ((o.1.length : Int) + 1) ≤ 1
    · have := n1.2.1 hz; omega
    · have := n1.2.2.1 (by omega); omega
  unfold bindD bindD1
  generalize nx bs ((o.1.length : Int) + 1) o.2 = a at *
  have q4 := c_l18Different (o.1.take a.1.toNat) (by simp; omega) (fun x hx => ho3 x (List.mem_of_mem_take hx))
  have hrl := rowsL_len (o.1.take a.1.toNat)
  have hrl2 : (o.1.take a.1.toNat).length ≤ 8 := by simp; omega
  have hmt : List.take a.1.toNat (List.map eI o.1) = List.map eI (o.1.take a.1.toNat) := List.map_take.symm
  generalize hR : rowsL (o.1.take a.1.toNat) = R at *
  have n2 := (nx_ok bs 20 n1.2.2.2).2.2.2
  have q5 := fun v => c_l01Next v bs 20 _ n1.2.2.2 hl
  dsimp only
  generalize nx bs 20 a.2 = b at *
  have q6 := fun v v2 => c_l01Pick v v2 true bs [0, 1, 9] _ b.2 rfl (by simp) (by simp) n2 hl
  unfold bindD2
  generalize pk bs [0, 1, 9] b.2 = y at *
  rcases Nat.lt_or_ge 64 bs.length with h64 | h64
  case' inl => (rw [Nat.min_eq_right (Nat.le_of_lt h64)]; simp -dsimp -implicitDefEqProofs only [pick_nil, pick_cons, look_nil, look_cons, dropB_nil, dropB_cons, inD_nil, inD_cons, inE_nil, inE_cons, or_t_l, or_f_l, Nat.reduceBEq, Nat.reduceDiv, Nat.reduceAdd, beq_self_eq_true, Bool.false_eq_true, Bool.or_false, ↓reduceIte, Nat.reduceEqDiff, List.cons_append, List.nil_append]; simp -dsimp -implicitDefEqProofs only [go_sem, ↓reduceIte, Nat.reduceEqDiff, Nat.reduceLT, Nat.reduceAdd, Nat.reduceMul, Nat.reduceLeDiff, Nat.le_refl, Int.natCast_zero, Int.toNat_natCast, Int.reduceToNat, lt_len h64, d64])
  case' inr => (rw [Nat.min_eq_left h64]; simp -dsimp -implicitDefEqProofs only [pick_nil, pick_cons, look_nil, look_cons, dropB_nil, dropB_cons, inD_nil, inD_cons, inE_nil, inE_cons, or_t_l, or_f_l, Nat.reduceBEq, Nat.reduceDiv, Nat.reduceAdd, beq_self_eq_true, Bool.false_eq_true, Bool.or_false, ↓reduceIte, Nat.reduceEqDiff, List.cons_append, List.nil_append]; simp -dsimp -implicitDefEqProofs only [go_sem, ↓reduceIte, Nat.reduceEqDiff, Nat.reduceLT, Nat.reduceAdd, Nat.reduceMul, Nat.reduceLeDiff, Nat.le_refl, Int.natCast_zero, Int.toNat_natCast, Int.reduceToNat, nlt_len])
  all_goals
    (refine sCallT_ioR [900007] ?_; simp -dsimp -implicitDefEqProofs only [go_sem, ↓reduceIte, Nat.reduceEqDiff, Nat.reduceLT, Nat.reduceAdd, Nat.reduceMul, Nat.reduceLeDiff, Nat.le_refl, Int.natCast_zero, Int.toNat_natCast, Int.reduceToNat]; refine sCallMR_any (q1 _) ?_; rintro _ _ ⟨rfl, rfl⟩; simp -dsimp -implicitDefEqProofs only [go_sem, ↓reduceIte, Nat.reduceEqDiff, Nat.reduceLT, Nat.reduceAdd, Nat.reduceMul, Nat.reduceLeDiff, Nat.le_refl, Int.natCast_zero, Int.toNat_natCast, Int.reduceToNat])
    (refine sCallT_io [900007] ?_; simp -dsimp -implicitDefEqProofs only [go_sem, ↓reduceIte, Nat.reduceEqDiff, Nat.reduceLT, Nat.reduceAdd, Nat.reduceMul, Nat.reduceLeDiff, Nat.le_refl, Int.natCast_zero, Int.toNat_natCast, Int.reduceToNat]; refine sCallM_one (q2 _) ?_; simp -dsimp -implicitDefEqProofs only [go_sem, ↓reduceIte, Nat.reduceEqDiff, Nat.reduceLT, Nat.reduceAdd, Nat.reduceMul, Nat.reduceLeDiff, Nat.le_refl, Int.natCast_zero, Int.toNat_natCast, Int.reduceToNat])
    refine ⟨by exact ⟨by omega, by omega⟩, ?_⟩
    (refine sCallT_io [900007] ?_; simp -dsimp -implicitDefEqProofs only [go_sem, ↓reduceIte, Nat.reduceEqDiff, Nat.reduceLT, Nat.reduceAdd, Nat.reduceMul, Nat.reduceLeDiff, Nat.le_refl, Int.natCast_zero, Int.toNat_natCast, Int.reduceToNat]; refine sCallM_one (q3 _) ?_; simp -dsimp -implicitDefEqProofs only [go_sem, ↓reduceIte, Nat.reduceEqDiff, Nat.reduceLT, Nat.reduceAdd, Nat.reduceMul, Nat.reduceLeDiff, Nat.le_refl, Int.natCast_zero, Int.toNat_natCast, Int.reduceToNat])
    ((repeat' (with_reducible refine And.intro ?_ ?_)); all_goals try (first | omega | (refine ⟨?_, ?_⟩ <;> omega) | (exact rfl)))
    rw [hmt]
    refine sCallT_one q4 ?_
    simp -dsimp -implicitDefEqProofs only [go_sem, ↓reduceIte, Nat.reduceEqDiff, Nat.reduceLT, Nat.reduceAdd, Nat.reduceMul, Nat.reduceLeDiff, Nat.le_refl, Int.natCast_zero, Int.toNat_natCast, Int.reduceToNat]
    (refine sCallT_io [900007] ?_; simp -dsimp -implicitDefEqProofs only [go_sem, ↓reduceIte, Nat.reduceEqDiff, Nat.reduceLT, Nat.reduceAdd, Nat.reduceMul, Nat.reduceLeDiff, Nat.le_refl, Int.natCast_zero, Int.toNat_natCast, Int.reduceToNat]; refine sCallM_one (q5 _) ?_; simp -dsimp -implicitDefEqProofs only [go_sem, ↓reduceIte, Nat.reduceEqDiff, Nat.reduceLT, Nat.reduceAdd, Nat.reduceMul, Nat.reduceLeDiff, Nat.le_refl, Int.natCast_zero, Int.toNat_natCast, Int.reduceToNat])
    rcases b0 : (b.1 == 0) with _ | _
    · rw [if_neg (beq_eq_false_iff_ne.1 b0)]
      simp -dsimp -implicitDefEqProofs only [go_sem, ↓reduceIte, Nat.reduceEqDiff, Nat.reduceLT, Nat.reduceAdd, Nat.reduceMul, Nat.reduceLeDiff, Nat.le_refl, Int.natCast_zero, Int.toNat_natCast, Int.reduceToNat, b0]
      refine Later.draw mixed rfl ?_
      simp -dsimp -implicitDefEqProofs only [go_sem, ↓reduceIte, Nat.reduceEqDiff, Nat.reduceLT, Nat.reduceAdd, Nat.reduceMul, Nat.reduceLeDiff, Nat.le_refl, Int.natCast_zero, Int.toNat_natCast, Int.reduceToNat]
      ((repeat' (with_reducible refine And.intro ?_ ?_)); all_goals try (first | omega | (refine ⟨?_, ?_⟩ <;> omega) | (exact rfl)))
    · rw [if_pos (beq_iff_eq.1 b0)]
      simp -dsimp -implicitDefEqProofs only [go_sem, ↓reduceIte, Nat.reduceEqDiff, Nat.reduceLT, Nat.reduceAdd, Nat.reduceMul, Nat.reduceLeDiff, Nat.le_refl, Int.natCast_zero, Int.toNat_natCast, Int.reduceToNat, b0]
      (refine sCallT_io [900007, 34] ?_; simp -dsimp -implicitDefEqProofs only [go_sem, ↓reduceIte, Nat.reduceEqDiff, Nat.reduceLT, Nat.reduceAdd, Nat.reduceMul, Nat.reduceLeDiff, Nat.le_refl, Int.natCast_zero, Int.toNat_natCast, Int.reduceToNat]; refine sCallM_one (q6 _ _) ?_; simp -dsimp -implicitDefEqProofs only [go_sem, ↓reduceIte, Nat.reduceEqDiff, Nat.reduceLT, Nat.reduceAdd, Nat.reduceMul, Nat.reduceLeDiff, Nat.le_refl, Int.natCast_zero, Int.toNat_natCast, Int.reduceToNat])
      ((repeat' (with_reducible refine And.intro ?_ ?_)); all_goals try (first | omega | (refine ⟨?_, ?_⟩ <;> omega) | (exact rfl)))
      refine Later.draw mixed rfl ?_
      simp -dsimp -implicitDefEqProofs only [go_sem, ↓reduceIte, Nat.reduceEqDiff, Nat.reduceLT, Nat.reduceAdd, Nat.reduceMul, Nat.reduceLeDiff, Nat.le_refl, Int.natCast_zero, Int.toNat_natCast, Int.reduceToNat]
      ((repeat' (with_reducible refine And.intro ?_ ?_)); all_goals try (first | omega | (refine ⟨?_, ?_⟩ <;> omega) | (exact rfl)))
      all_goals (first | (simp; done) | (rw [List.take_of_length_le (by simp)]; simp; done) | (rw [List.take_of_length_le (by simp; omega)]; done) | (exact congrArg (Value.int IntKind.i64) (by omega)) | trace_state)
theorem c_DrawPickOnce (bs : List UInt8) (hl : bs.length ≤ 4096) : Fn Try.prog 54 [eYs bs] false (· = .tup [eMk (lkD bs (src0 bs)).1, eLk (lkD bs (src0 bs)).2.1, eIs (ordD bs (lkD bs (src0 bs)).1 (lkD bs (src0 bs)).2.2).1, eIs (bindD bs (ordD bs (lkD bs (src0 bs)).1 (lkD bs (src0 bs)).2.2).1 (ordD bs (lkD bs (src0 bs)).1 (lkD bs (src0 bs)).2.2).2),
    eP (pickD bs (lkD bs (src0 bs)).1 (lkD bs (src0 bs)).2.1 (ordD bs (lkD bs (src0 bs)).1 (lkD bs (src0 bs)).2.2).1 (bindD bs (ordD bs (lkD bs (src0 bs)).1 (lkD bs (src0 bs)).2.2).1 (ordD bs (lkD bs (src0 bs)).1 (lkD bs (src0 bs)).2.2).2).length (src0 bs)).1]) := by
  refine Fn.of_vcS 32 [.cell 2 43, .cell 3 45, .tmp 4, .tmp 5, .cell 6 75] Try.func54 rfl rfl rfl rfl rfl (of_decide_eq_true rfl) ?_
  have d1 := c_DrawBindingChamber bs hl
  simp -dsimp -implicitDefEqProofs only [go_sem, ↓reduceIte, Nat.reduceEqDiff, Nat.reduceLT, Nat.reduceAdd, Nat.reduceMul, Nat.reduceLeDiff, Nat.le_refl, Int.natCast_zero, Int.toNat_natCast, Int.reduceToNat]
  (refine sCallT_inl 900000 34 [.tmp 2] Try.func61 rfl rfl rfl rfl rfl (by exact of_decide_eq_true rfl) ?_; simp -dsimp -implicitDefEqProofs only [go_sem, ↓reduceIte, Nat.reduceEqDiff, Nat.reduceLT, Nat.reduceAdd, Nat.reduceMul, Nat.reduceLeDiff, Nat.le_refl, Int.natCast_zero, Int.toNat_natCast, Int.reduceToNat]; refine Later.up [0, 3] [10] [7] (min bs.length 64) (fun _ => True) (fun i => [(4, eI i)]) (fun i => [(7, srcB 0 bs ⟨seedAt bs i, 0⟩)]) trivial ?_ rfl (fun i hi _ => ?_) (fun _ => ?_))
  · simp -dsimp -implicitDefEqProofs only [go_sem, ↓reduceIte, Nat.reduceEqDiff, Nat.reduceLT, Nat.reduceAdd, Nat.reduceMul, Nat.reduceLeDiff, Nat.le_refl, Int.natCast_zero, Int.toNat_natCast, Int.reduceToNat]
    simp [seedAt]
  · ((have h1 : i < bs.length := by omega); (have h2 : i < 64 := by omega); (have hs := seedAt_ok bs i); (have hb := (bs[i]).toNat_lt); (have d1 := lt_len h1); (have d2 : decide ((i : Int) < 64) = true := decide_eq_true (by omega)); (have g1 := get_some h1); (have e1 := seedAt_succ h1); simp -dsimp -implicitDefEqProofs only [pick_nil, pick_cons, look_nil, look_cons, dropB_nil, dropB_cons, inD_nil, inD_cons, inE_nil, inE_cons, or_t_l, or_f_l, Nat.reduceBEq, Nat.reduceDiv, Nat.reduceAdd, beq_self_eq_true, Bool.false_eq_true, Bool.or_false, ↓reduceIte, Nat.reduceEqDiff, List.cons_append, List.nil_append]; rw [e1]; generalize bs[i] = b at *; generalize seedAt bs i = z at *; simp -dsimp -implicitDefEqProofs only [go_sem, ↓reduceIte, Nat.reduceEqDiff, Nat.reduceLT, Nat.reduceAdd, Nat.reduceMul, Nat.reduceLeDiff, Nat.le_refl, Int.natCast_zero, Int.toNat_natCast, Int.reduceToNat, d1, d2]; refine Later.draw mixed rfl ?_; simp -dsimp -implicitDefEqProofs only [go_sem, ↓reduceIte, Nat.reduceEqDiff, Nat.reduceLT, Nat.reduceAdd, Nat.reduceMul, Nat.reduceLeDiff, Nat.le_refl, Int.natCast_zero, Int.toNat_natCast, Int.reduceToNat, g1]; (repeat' (with_reducible refine And.intro ?_ ?_)); all_goals (first | omega | (refine ⟨?_, ?_⟩ <;> omega) | (exact rfl) | (simp; done) | trace_state))
  (have hs := src0_ok bs); (have hq : (⟨seedAt bs (min bs.length 64), 0⟩ : Src) = src0 bs := rfl); rw [hq]; clear hq; generalize src0 bs = s at *; (have d64 : decide (((64 : Nat) : Int) < 64) = false := rfl)
  obtain ⟨k1, k2, k3, k4⟩ := lkD_facts (bs := bs) hs
  generalize lkD bs s = p at *
  have ho := ordD_ok (bs := bs) k1 k4
  generalize ordD bs p.1 p.2.2 = o at *
  generalize bindD bs o.1 o.2 = st at *
  have q2 := fun v => c_l32DrawPick v bs p.1 p.2.1 o.1 st.length s k1 k2 k3 ho.2.1 hs hl
  generalize pickD bs p.1 p.2.1 o.1 st.length s = y at *
  rcases Nat.lt_or_ge 64 bs.length with h64 | h64
  case' inl => (rw [Nat.min_eq_right (Nat.le_of_lt h64)]; simp -dsimp -implicitDefEqProofs only [pick_nil, pick_cons, look_nil, look_cons, dropB_nil, dropB_cons, inD_nil, inD_cons, inE_nil, inE_cons, or_t_l, or_f_l, Nat.reduceBEq, Nat.reduceDiv, Nat.reduceAdd, beq_self_eq_true, Bool.false_eq_true, Bool.or_false, ↓reduceIte, Nat.reduceEqDiff, List.cons_append, List.nil_append]; simp -dsimp -implicitDefEqProofs only [go_sem, ↓reduceIte, Nat.reduceEqDiff, Nat.reduceLT, Nat.reduceAdd, Nat.reduceMul, Nat.reduceLeDiff, Nat.le_refl, Int.natCast_zero, Int.toNat_natCast, Int.reduceToNat, lt_len h64, d64])
  case' inr => (rw [Nat.min_eq_left h64]; simp -dsimp -implicitDefEqProofs only [pick_nil, pick_cons, look_nil, look_cons, dropB_nil, dropB_cons, inD_nil, inD_cons, inE_nil, inE_cons, or_t_l, or_f_l, Nat.reduceBEq, Nat.reduceDiv, Nat.reduceAdd, beq_self_eq_true, Bool.false_eq_true, Bool.or_false, ↓reduceIte, Nat.reduceEqDiff, List.cons_append, List.nil_append]; simp -dsimp -implicitDefEqProofs only [go_sem, ↓reduceIte, Nat.reduceEqDiff, Nat.reduceLT, Nat.reduceAdd, Nat.reduceMul, Nat.reduceLeDiff, Nat.le_refl, Int.natCast_zero, Int.toNat_natCast, Int.reduceToNat, nlt_len])
  all_goals
    refine sCallS_one d1 (by simp [noLabs, labs, isClo]) ?_
    simp -dsimp -implicitDefEqProofs only [go_sem, ↓reduceIte, Nat.reduceEqDiff, Nat.reduceLT, Nat.reduceAdd, Nat.reduceMul, Nat.reduceLeDiff, Nat.le_refl, Int.natCast_zero, Int.toNat_natCast, Int.reduceToNat]
    refine Later.draw mixed rfl ?_
    simp -dsimp -implicitDefEqProofs only [go_sem, ↓reduceIte, Nat.reduceEqDiff, Nat.reduceLT, Nat.reduceAdd, Nat.reduceMul, Nat.reduceLeDiff, Nat.le_refl, Int.natCast_zero, Int.toNat_natCast, Int.reduceToNat]
    (refine sCallX_io [900007] rfl ?_; simp -dsimp -implicitDefEqProofs only [go_sem, ↓reduceIte, Nat.reduceEqDiff, Nat.reduceLT, Nat.reduceAdd, Nat.reduceMul, Nat.reduceLeDiff, Nat.le_refl, Int.natCast_zero, Int.toNat_natCast, Int.reduceToNat]; refine sCallMX_one (q2 _) ?_; simp -dsimp -implicitDefEqProofs only [go_sem, ↓reduceIte, Nat.reduceEqDiff, Nat.reduceLT, Nat.reduceAdd, Nat.reduceMul, Nat.reduceLeDiff, Nat.le_refl, Int.natCast_zero, Int.toNat_natCast, Int.reduceToNat])
    ((repeat' (with_reducible refine And.intro ?_ ?_)); all_goals try (first | omega | (refine ⟨?_, ?_⟩ <;> omega) | (exact rfl)))
end Go.Vc


/-
  A lock picked by many picks: the body, stepped through.
-/
set_option linter.unusedVariables false
set_option linter.unusedSimpArgs false
set_option linter.unnecessarySimpa false
namespace Go.Vc
open Go.Proofs
set_option maxRecDepth 100000
abbrev pkBox (l : List (List Int)) (o : List Int) (x : PS) : Blk := .box 0 [eIss l, eIs o, eI x.n, .ref 16 0 0 o.length, eI x.falls]
set_option maxHeartbeats 4000000 in
theorem vc_pickLock (m : MkM) (l : List (List Int)) (o : List Int) (ps : List PkM) (pk : Pk m l o) (h2 : ∀ x ∈ l, x.length ≤ 1048576) (hp : ps.all (pickOk m) = true) (h5 : ps.length ≤ 1048576) (K : AV → Mem → Prop)
    (hk1 : K (.tup [.ptr 18 0 0 0, eI (madeS l o ps)]) [(18, pkBox l o (runS l o ps ps.length)), (16, .row 0 ⟨1, false⟩ true ((runS l o ps ps.length).cuts.map eI)), (3, .box 0 [eIss l]), (1500000005, .box 0 [eIss l]), (1500000004, .box 0 [eI m.chambers, eI m.depths, eI m.step, eI m.same, eI m.least])])
    (hk2 : ∀ p : PkM, K (.tup [.ptr 18 0 0 0, eI (madeS l o ps)]) [(11, .box 0 [eI p.chamber, eI p.depth]), (11, .box 0 [eI 0, eI 0]), (18, pkBox l o (runS l o ps ps.length)), (16, .row 0 ⟨1, false⟩ true ((runS l o ps ps.length).cuts.map eI)), (3, .box 0 [eIss l]), (1500000005, .box 0 [eIss l]), (1500000004, .box 0 [eI m.chambers, eI m.depths, eI m.step, eI m.same, eI m.least])]) :
    ∀ c, Try.f106.body = some c → vc Try.prog 35 c (argsE 0 [eLk l, eIs o, ePs ps]) [(1500000005, .box 0 [eIss l]), (1500000004, .box 0 [eI m.chambers, eI m.depths, eI m.step, eI m.same, eI m.least])] (finI Try.prog [.tmp 6, .tmp 7] K) := by
  intro c hc
  have hc9 := Option.some.inj hc
  clear hc
  subst hc9
  have n6 := pk.n6
  simp -dsimp -implicitDefEqProofs only [go_sem, ↓reduceIte, Nat.reduceEqDiff, Nat.reduceLT, Nat.reduceAdd, Nat.reduceMul, Nat.reduceLeDiff, Nat.le_refl, Int.natCast_zero, Int.toNat_natCast, Int.reduceToNat]
  repeat' first
    | (with_reducible refine And.intro ?_ ?_)
    | (refine Later.draw mixed rfl ?_; try simp -dsimp -implicitDefEqProofs only [go_sem, ↓reduceIte, Nat.reduceEqDiff, Nat.reduceLT, Nat.reduceAdd, Nat.reduceMul, Nat.reduceLeDiff, Nat.le_refl, Int.natCast_zero, Int.toNat_natCast, Int.reduceToNat])
  all_goals try (first | omega | (refine ⟨?_, ?_⟩ <;> omega) | (exact rfl) | (simp; done))
  refine Later.up [8, 19, 20] [11, 26, 29] [16, 18, 500003] ps.length (fun i => ∀ j, j < i → (runS l o ps j).n ≠ o.length) (fun i => [(9, eI i), (21, eI i)])
    (fun i => [(18, pkBox l o (runS l o ps i)), (16, .row 0 ⟨1, false⟩ true ((runS l o ps i).cuts.map eI))]) (fun j hj => absurd hj (Nat.not_lt_zero _)) ?_ rfl (fun i hi hI => ?_) (fun hI => ?_)
  · rw [runS_zero]
    simp -dsimp -implicitDefEqProofs only [go_sem, ↓reduceIte, Nat.reduceEqDiff, Nat.reduceLT, Nat.reduceAdd, Nat.reduceMul, Nat.reduceLeDiff, Nat.le_refl, Int.natCast_zero, Int.toNat_natCast, Int.reduceToNat]
    all_goals simp
  · have gi := get_some hi
    have li := lt_len hi
    have hpi := ps_num pk.ch hp hi
    have hn := runS_n l o ps i
    have hcu := runS_cuts l o ps i
    have hfa := runS_falls l o ps i
    have hfb : (ps.take i).length ≤ 1048576 := by simp; omega
    rcases Nat.lt_or_ge (runS l o ps i).n o.length with hlt | hge
    rotate_left
    · have hno : (runS l o ps i).n = o.length := by omega
      have hd : (((runS l o ps i).n : Int) == o.length) = true := by simp [hno]
      have hst := runS_stop l o ps i hno (ps.length - i)
      rw [show i + (ps.length - i) = ps.length by omega] at hst
      have hmd := madeS_stop l o ps i (by omega) hI (fun _ => hno)
      have hk := hk2 ps[i]
      rw [hst, hmd] at hk
      clear hst hmd hI pk hp hk1 hk2 hno hge
      simp -dsimp -implicitDefEqProofs only [pick_nil, pick_cons, look_nil, look_cons, dropB_nil, dropB_cons, inD_nil, inD_cons, inE_nil, inE_cons, or_t_l, or_f_l, Nat.reduceBEq, Nat.reduceDiv, Nat.reduceAdd, beq_self_eq_true, Bool.false_eq_true, Bool.or_false, ↓reduceIte, Nat.reduceEqDiff, List.cons_append, List.nil_append]
      simp -dsimp -implicitDefEqProofs only [go_sem, ↓reduceIte, Nat.reduceEqDiff, Nat.reduceLT, Nat.reduceAdd, Nat.reduceMul, Nat.reduceLeDiff, Nat.le_refl, Int.natCast_zero, Int.toNat_natCast, Int.reduceToNat, li, gi]
      refine ⟨⟨by omega, by omega⟩, ?_⟩
      refine sCallT_inl 400000 13 [.tmp 2] Try.func107 rfl rfl rfl rfl rfl (by exact of_decide_eq_true rfl) ?_
      simp -dsimp -implicitDefEqProofs only [go_sem, ↓reduceIte, Nat.reduceEqDiff, Nat.reduceLT, Nat.reduceAdd, Nat.reduceMul, Nat.reduceLeDiff, Nat.le_refl, Int.natCast_zero, Int.toNat_natCast, Int.reduceToNat, hd]
      repeat' first
        | (refine Br.intro (fun _ => ?_) (fun _ => ?_) <;> try simp -dsimp -implicitDefEqProofs only [go_sem, ↓reduceIte, Nat.reduceEqDiff, Nat.reduceLT, Nat.reduceAdd, Nat.reduceMul, Nat.reduceLeDiff, Nat.le_refl, Int.natCast_zero, Int.toNat_natCast, Int.reduceToNat, *])
        | (with_reducible refine And.intro ?_ ?_)
        | (refine Later.draw mixed rfl ?_; try simp -dsimp -implicitDefEqProofs only [go_sem, ↓reduceIte, Nat.reduceEqDiff, Nat.reduceLT, Nat.reduceAdd, Nat.reduceMul, Nat.reduceLeDiff, Nat.le_refl, Int.natCast_zero, Int.toNat_natCast, Int.reduceToNat, *])
      all_goals first
        | omega
        | (exact rfl)
        | exact hk
        | trace_state
    have hd : (((runS l o ps i).n : Int) == o.length) = false := by simp; omega
    have hI' : ∀ j, j < i + 1 → (runS l o ps j).n ≠ o.length := fun j hj => by
      rcases Nat.lt_or_ge j i with h9 | h9
      · exact hI j h9
      · have : j = i := by omega
        subst this; omega
    have hch : ps[i].chamber.toNat < (runS l o ps i).cuts.length := by omega
    have gcu := get_some hch
    have hpc := pick_cases pk hn hpi
    have hstep := @runS_step l o ps i hi
    have gn := get_some hlt
    clear hI hk1 hk2 pk hp
    rcases hpc with ⟨q1, q2, q3⟩ | ⟨_, q1, q2, q3⟩ | ⟨_, q1, hcl, hst, q⟩
    · omega
    · have e := hstep q2 q3
      rw [if_neg (Nat.lt_irrefl _), if_neg (by decide)] at e
      have hne : (o[(runS l o ps i).n] != ps[i].chamber) = true := by simp [q1]
      simp -dsimp -implicitDefEqProofs only [pick_nil, pick_cons, look_nil, look_cons, dropB_nil, dropB_cons, inD_nil, inD_cons, inE_nil, inE_cons, or_t_l, or_f_l, Nat.reduceBEq, Nat.reduceDiv, Nat.reduceAdd, beq_self_eq_true, Bool.false_eq_true, Bool.or_false, ↓reduceIte, Nat.reduceEqDiff, List.cons_append, List.nil_append]
      rw [e]
      clear e hstep q1 q2 q3
      simp -dsimp -implicitDefEqProofs only [go_sem, ↓reduceIte, Nat.reduceEqDiff, Nat.reduceLT, Nat.reduceAdd, Nat.reduceMul, Nat.reduceLeDiff, Nat.le_refl, Int.natCast_zero, Int.toNat_natCast, Int.reduceToNat, li, gi]
      refine ⟨⟨by omega, by omega⟩, ?_⟩
      refine sCallT_inl 400000 13 [.tmp 2] Try.func107 rfl rfl rfl rfl rfl (by exact of_decide_eq_true rfl) ?_
      simp -dsimp -implicitDefEqProofs only [go_sem, ↓reduceIte, Nat.reduceEqDiff, Nat.reduceLT, Nat.reduceAdd, Nat.reduceMul, Nat.reduceLeDiff, Nat.le_refl, Int.natCast_zero, Int.toNat_natCast, Int.reduceToNat, hd]
      (repeat' (first | (refine Br.intro (fun _ => ?_) (fun _ => ?_) <;> try simp -dsimp -implicitDefEqProofs only [go_sem, ↓reduceIte, Nat.reduceEqDiff, Nat.reduceLT, Nat.reduceAdd, Nat.reduceMul, Nat.reduceLeDiff, Nat.le_refl, Int.natCast_zero, Int.toNat_natCast, Int.reduceToNat, *]) | (with_reducible refine And.intro ?_ ?_) | (refine Later.draw mixed rfl ?_; try simp -dsimp -implicitDefEqProofs only [go_sem, ↓reduceIte, Nat.reduceEqDiff, Nat.reduceLT, Nat.reduceAdd, Nat.reduceMul, Nat.reduceLeDiff, Nat.le_refl, Int.natCast_zero, Int.toNat_natCast, Int.reduceToNat, *])))
      all_goals try (first | omega | (exact rfl))
      refine sCallT_inl 500000 84 [.tmp 4] Try.func112 rfl rfl rfl rfl rfl (by exact of_decide_eq_true rfl) ?_
      simp -dsimp -implicitDefEqProofs only [go_sem, ↓reduceIte, Nat.reduceEqDiff, Nat.reduceLT, Nat.reduceAdd, Nat.reduceMul, Nat.reduceLeDiff, Nat.le_refl, Int.natCast_zero, Int.toNat_natCast, Int.reduceToNat, hd, gn, hne]
      ((repeat' (first | (refine Br.intro (fun _ => ?_) (fun _ => ?_) <;> try simp -dsimp -implicitDefEqProofs only [go_sem, ↓reduceIte, Nat.reduceEqDiff, Nat.reduceLT, Nat.reduceAdd, Nat.reduceMul, Nat.reduceLeDiff, Nat.le_refl, Int.natCast_zero, Int.toNat_natCast, Int.reduceToNat, *]) | (with_reducible refine And.intro ?_ ?_) | (refine Later.draw mixed rfl ?_; try simp -dsimp -implicitDefEqProofs only [go_sem, ↓reduceIte, Nat.reduceEqDiff, Nat.reduceLT, Nat.reduceAdd, Nat.reduceMul, Nat.reduceLeDiff, Nat.le_refl, Int.natCast_zero, Int.toNat_natCast, Int.reduceToNat, *]) | (refine sCallT_one (c_Contains z ps[i].depth hx) ?_; try simp -dsimp -implicitDefEqProofs only [go_sem, ↓reduceIte, Nat.reduceEqDiff, Nat.reduceLT, Nat.reduceAdd, Nat.reduceMul, Nat.reduceLeDiff, Nat.le_refl, Int.natCast_zero, Int.toNat_natCast, Int.reduceToNat, *]))); all_goals try (first | omega | (refine ⟨?_, ?_⟩ <;> omega) | (exact rfl) | (exact hI') | (simp; done) | (simp; omega) | (rw [List.map_set]; done) | trace_state))
    · have hne : (o[(runS l o ps i).n] != ps[i].chamber) = false := by simp [q1]
      have gc := get_some hcl
      have hlt2 : l[ps[i].chamber.toNat].length - 1 < l[ps[i].chamber.toNat].length := by omega
      have gL : l[ps[i].chamber.toNat][((l[ps[i].chamber.toNat].length : Int) - 1).toNat]? = some l[ps[i].chamber.toNat][l[ps[i].chamber.toNat].length - 1] := by rw [pred_toNat hst]; exact get_some hlt2
      have hx := h2 _ (List.getElem_mem hcl)
      clear q1
      generalize l[ps[i].chamber.toNat] = z at *
      rcases q with ⟨q1, q2, q3⟩ | ⟨q1, q4, q2, q3⟩ | ⟨q1, q4, q2, q3⟩
      · have e := hstep q2 q3
        rw [if_pos rfl, if_neg (by omega)] at e
        simp -dsimp -implicitDefEqProofs only [pick_nil, pick_cons, look_nil, look_cons, dropB_nil, dropB_cons, inD_nil, inD_cons, inE_nil, inE_cons, or_t_l, or_f_l, Nat.reduceBEq, Nat.reduceDiv, Nat.reduceAdd, beq_self_eq_true, Bool.false_eq_true, Bool.or_false, ↓reduceIte, Nat.reduceEqDiff, List.cons_append, List.nil_append]
        rw [e]
        clear e hstep q2 q3
        simp -dsimp -implicitDefEqProofs only [go_sem, ↓reduceIte, Nat.reduceEqDiff, Nat.reduceLT, Nat.reduceAdd, Nat.reduceMul, Nat.reduceLeDiff, Nat.le_refl, Int.natCast_zero, Int.toNat_natCast, Int.reduceToNat, li, gi]
        refine ⟨⟨by omega, by omega⟩, ?_⟩
        refine sCallT_inl 400000 13 [.tmp 2] Try.func107 rfl rfl rfl rfl rfl (by exact of_decide_eq_true rfl) ?_
        simp -dsimp -implicitDefEqProofs only [go_sem, ↓reduceIte, Nat.reduceEqDiff, Nat.reduceLT, Nat.reduceAdd, Nat.reduceMul, Nat.reduceLeDiff, Nat.le_refl, Int.natCast_zero, Int.toNat_natCast, Int.reduceToNat, hd]
        (repeat' (first | (refine Br.intro (fun _ => ?_) (fun _ => ?_) <;> try simp -dsimp -implicitDefEqProofs only [go_sem, ↓reduceIte, Nat.reduceEqDiff, Nat.reduceLT, Nat.reduceAdd, Nat.reduceMul, Nat.reduceLeDiff, Nat.le_refl, Int.natCast_zero, Int.toNat_natCast, Int.reduceToNat, *]) | (with_reducible refine And.intro ?_ ?_) | (refine Later.draw mixed rfl ?_; try simp -dsimp -implicitDefEqProofs only [go_sem, ↓reduceIte, Nat.reduceEqDiff, Nat.reduceLT, Nat.reduceAdd, Nat.reduceMul, Nat.reduceLeDiff, Nat.le_refl, Int.natCast_zero, Int.toNat_natCast, Int.reduceToNat, *])))
        all_goals try (first | omega | (exact rfl))
        refine sCallT_inl 500000 84 [.tmp 4] Try.func112 rfl rfl rfl rfl rfl (by exact of_decide_eq_true rfl) ?_
        simp -dsimp -implicitDefEqProofs only [go_sem, ↓reduceIte, Nat.reduceEqDiff, Nat.reduceLT, Nat.reduceAdd, Nat.reduceMul, Nat.reduceLeDiff, Nat.le_refl, Int.natCast_zero, Int.toNat_natCast, Int.reduceToNat, hd, gn, hne, gc]
        ((repeat' (first | (refine Br.intro (fun _ => ?_) (fun _ => ?_) <;> try simp -dsimp -implicitDefEqProofs only [go_sem, ↓reduceIte, Nat.reduceEqDiff, Nat.reduceLT, Nat.reduceAdd, Nat.reduceMul, Nat.reduceLeDiff, Nat.le_refl, Int.natCast_zero, Int.toNat_natCast, Int.reduceToNat, *]) | (with_reducible refine And.intro ?_ ?_) | (refine Later.draw mixed rfl ?_; try simp -dsimp -implicitDefEqProofs only [go_sem, ↓reduceIte, Nat.reduceEqDiff, Nat.reduceLT, Nat.reduceAdd, Nat.reduceMul, Nat.reduceLeDiff, Nat.le_refl, Int.natCast_zero, Int.toNat_natCast, Int.reduceToNat, *]) | (refine sCallT_one (c_Contains z ps[i].depth hx) ?_; try simp -dsimp -implicitDefEqProofs only [go_sem, ↓reduceIte, Nat.reduceEqDiff, Nat.reduceLT, Nat.reduceAdd, Nat.reduceMul, Nat.reduceLeDiff, Nat.le_refl, Int.natCast_zero, Int.toNat_natCast, Int.reduceToNat, *]))); all_goals try (first | omega | (refine ⟨?_, ?_⟩ <;> omega) | (exact rfl) | (exact hI') | (simp; done) | (simp; omega) | (rw [List.map_set]; done) | trace_state))
      · have e := hstep q2 q3
        have hgt : decide (ps[i].depth > z[z.length - 1]) = true := by rw [getElem!_pos z (z.length - 1) hlt2] at q4; exact decide_eq_true q4
        rcases Nat.eq_zero_or_pos (runS l o ps i).n with hz | hz
        · have hp0 : decide (((runS l o ps i).n : Int) > 0) = false := by simp [hz]
          rw [if_neg (by decide), if_neg (by omega)] at e
          simp -dsimp -implicitDefEqProofs only [pick_nil, pick_cons, look_nil, look_cons, dropB_nil, dropB_cons, inD_nil, inD_cons, inE_nil, inE_cons, or_t_l, or_f_l, Nat.reduceBEq, Nat.reduceDiv, Nat.reduceAdd, beq_self_eq_true, Bool.false_eq_true, Bool.or_false, ↓reduceIte, Nat.reduceEqDiff, List.cons_append, List.nil_append]
          rw [e]
          clear e hstep q2 q3 q4 hz
          simp -dsimp -implicitDefEqProofs only [go_sem, ↓reduceIte, Nat.reduceEqDiff, Nat.reduceLT, Nat.reduceAdd, Nat.reduceMul, Nat.reduceLeDiff, Nat.le_refl, Int.natCast_zero, Int.toNat_natCast, Int.reduceToNat, li, gi]
          refine ⟨⟨by omega, by omega⟩, ?_⟩
          refine sCallT_inl 400000 13 [.tmp 2] Try.func107 rfl rfl rfl rfl rfl (by exact of_decide_eq_true rfl) ?_
          simp -dsimp -implicitDefEqProofs only [go_sem, ↓reduceIte, Nat.reduceEqDiff, Nat.reduceLT, Nat.reduceAdd, Nat.reduceMul, Nat.reduceLeDiff, Nat.le_refl, Int.natCast_zero, Int.toNat_natCast, Int.reduceToNat, hd]
          (repeat' (first | (refine Br.intro (fun _ => ?_) (fun _ => ?_) <;> try simp -dsimp -implicitDefEqProofs only [go_sem, ↓reduceIte, Nat.reduceEqDiff, Nat.reduceLT, Nat.reduceAdd, Nat.reduceMul, Nat.reduceLeDiff, Nat.le_refl, Int.natCast_zero, Int.toNat_natCast, Int.reduceToNat, *]) | (with_reducible refine And.intro ?_ ?_) | (refine Later.draw mixed rfl ?_; try simp -dsimp -implicitDefEqProofs only [go_sem, ↓reduceIte, Nat.reduceEqDiff, Nat.reduceLT, Nat.reduceAdd, Nat.reduceMul, Nat.reduceLeDiff, Nat.le_refl, Int.natCast_zero, Int.toNat_natCast, Int.reduceToNat, *])))
          all_goals try (first | omega | (exact rfl))
          refine sCallT_inl 500000 84 [.tmp 4] Try.func112 rfl rfl rfl rfl rfl (by exact of_decide_eq_true rfl) ?_
          simp -dsimp -implicitDefEqProofs only [go_sem, ↓reduceIte, Nat.reduceEqDiff, Nat.reduceLT, Nat.reduceAdd, Nat.reduceMul, Nat.reduceLeDiff, Nat.le_refl, Int.natCast_zero, Int.toNat_natCast, Int.reduceToNat, hd, gn, hne, gc]
          ((repeat' (first | (refine Br.intro (fun _ => ?_) (fun _ => ?_) <;> try simp -dsimp -implicitDefEqProofs only [go_sem, ↓reduceIte, Nat.reduceEqDiff, Nat.reduceLT, Nat.reduceAdd, Nat.reduceMul, Nat.reduceLeDiff, Nat.le_refl, Int.natCast_zero, Int.toNat_natCast, Int.reduceToNat, *]) | (with_reducible refine And.intro ?_ ?_) | (refine Later.draw mixed rfl ?_; try simp -dsimp -implicitDefEqProofs only [go_sem, ↓reduceIte, Nat.reduceEqDiff, Nat.reduceLT, Nat.reduceAdd, Nat.reduceMul, Nat.reduceLeDiff, Nat.le_refl, Int.natCast_zero, Int.toNat_natCast, Int.reduceToNat, *]) | (refine sCallT_one (c_Contains z ps[i].depth hx) ?_; try simp -dsimp -implicitDefEqProofs only [go_sem, ↓reduceIte, Nat.reduceEqDiff, Nat.reduceLT, Nat.reduceAdd, Nat.reduceMul, Nat.reduceLeDiff, Nat.le_refl, Int.natCast_zero, Int.toNat_natCast, Int.reduceToNat, *]))); all_goals try (first | omega | (refine ⟨?_, ?_⟩ <;> omega) | (exact rfl) | (exact hI') | (simp; done) | (simp; omega) | (rw [List.map_set]; done) | trace_state))
        · have hp0 : decide (((runS l o ps i).n : Int) > 0) = true := by simp; omega
          rw [if_neg (by decide), if_pos hz] at e
          simp -dsimp -implicitDefEqProofs only [pick_nil, pick_cons, look_nil, look_cons, dropB_nil, dropB_cons, inD_nil, inD_cons, inE_nil, inE_cons, or_t_l, or_f_l, Nat.reduceBEq, Nat.reduceDiv, Nat.reduceAdd, beq_self_eq_true, Bool.false_eq_true, Bool.or_false, ↓reduceIte, Nat.reduceEqDiff, List.cons_append, List.nil_append]
          rw [e]
          clear e hstep q2 q3 q4 hz
          simp -dsimp -implicitDefEqProofs only [go_sem, ↓reduceIte, Nat.reduceEqDiff, Nat.reduceLT, Nat.reduceAdd, Nat.reduceMul, Nat.reduceLeDiff, Nat.le_refl, Int.natCast_zero, Int.toNat_natCast, Int.reduceToNat, li, gi]
          refine ⟨⟨by omega, by omega⟩, ?_⟩
          refine sCallT_inl 400000 13 [.tmp 2] Try.func107 rfl rfl rfl rfl rfl (by exact of_decide_eq_true rfl) ?_
          simp -dsimp -implicitDefEqProofs only [go_sem, ↓reduceIte, Nat.reduceEqDiff, Nat.reduceLT, Nat.reduceAdd, Nat.reduceMul, Nat.reduceLeDiff, Nat.le_refl, Int.natCast_zero, Int.toNat_natCast, Int.reduceToNat, hd]
          (repeat' (first | (refine Br.intro (fun _ => ?_) (fun _ => ?_) <;> try simp -dsimp -implicitDefEqProofs only [go_sem, ↓reduceIte, Nat.reduceEqDiff, Nat.reduceLT, Nat.reduceAdd, Nat.reduceMul, Nat.reduceLeDiff, Nat.le_refl, Int.natCast_zero, Int.toNat_natCast, Int.reduceToNat, *]) | (with_reducible refine And.intro ?_ ?_) | (refine Later.draw mixed rfl ?_; try simp -dsimp -implicitDefEqProofs only [go_sem, ↓reduceIte, Nat.reduceEqDiff, Nat.reduceLT, Nat.reduceAdd, Nat.reduceMul, Nat.reduceLeDiff, Nat.le_refl, Int.natCast_zero, Int.toNat_natCast, Int.reduceToNat, *])))
          all_goals try (first | omega | (exact rfl))
          refine sCallT_inl 500000 84 [.tmp 4] Try.func112 rfl rfl rfl rfl rfl (by exact of_decide_eq_true rfl) ?_
          simp -dsimp -implicitDefEqProofs only [go_sem, ↓reduceIte, Nat.reduceEqDiff, Nat.reduceLT, Nat.reduceAdd, Nat.reduceMul, Nat.reduceLeDiff, Nat.le_refl, Int.natCast_zero, Int.toNat_natCast, Int.reduceToNat, hd, gn, hne, gc]
          ((repeat' (first | (refine Br.intro (fun _ => ?_) (fun _ => ?_) <;> try simp -dsimp -implicitDefEqProofs only [go_sem, ↓reduceIte, Nat.reduceEqDiff, Nat.reduceLT, Nat.reduceAdd, Nat.reduceMul, Nat.reduceLeDiff, Nat.le_refl, Int.natCast_zero, Int.toNat_natCast, Int.reduceToNat, *]) | (with_reducible refine And.intro ?_ ?_) | (refine Later.draw mixed rfl ?_; try simp -dsimp -implicitDefEqProofs only [go_sem, ↓reduceIte, Nat.reduceEqDiff, Nat.reduceLT, Nat.reduceAdd, Nat.reduceMul, Nat.reduceLeDiff, Nat.le_refl, Int.natCast_zero, Int.toNat_natCast, Int.reduceToNat, *]) | (refine sCallT_one (c_Contains z ps[i].depth hx) ?_; try simp -dsimp -implicitDefEqProofs only [go_sem, ↓reduceIte, Nat.reduceEqDiff, Nat.reduceLT, Nat.reduceAdd, Nat.reduceMul, Nat.reduceLeDiff, Nat.le_refl, Int.natCast_zero, Int.toNat_natCast, Int.reduceToNat, *]))); all_goals try (first | omega | (refine ⟨?_, ?_⟩ <;> omega) | (exact rfl) | (exact hI') | (simp; done) | (simp; omega) | (rw [List.map_set]; done) | trace_state))
      · have e := hstep q2 q3
        have hgt : decide (ps[i].depth > z[z.length - 1]) = false := by rw [getElem!_pos z (z.length - 1) hlt2] at q4; exact decide_eq_false q4
        rw [if_neg (by decide), if_neg (Nat.lt_irrefl _)] at e
        simp -dsimp -implicitDefEqProofs only [pick_nil, pick_cons, look_nil, look_cons, dropB_nil, dropB_cons, inD_nil, inD_cons, inE_nil, inE_cons, or_t_l, or_f_l, Nat.reduceBEq, Nat.reduceDiv, Nat.reduceAdd, beq_self_eq_true, Bool.false_eq_true, Bool.or_false, ↓reduceIte, Nat.reduceEqDiff, List.cons_append, List.nil_append]
        rw [e]
        clear e hstep q2 q3 q4
        simp -dsimp -implicitDefEqProofs only [go_sem, ↓reduceIte, Nat.reduceEqDiff, Nat.reduceLT, Nat.reduceAdd, Nat.reduceMul, Nat.reduceLeDiff, Nat.le_refl, Int.natCast_zero, Int.toNat_natCast, Int.reduceToNat, li, gi]
        refine ⟨⟨by omega, by omega⟩, ?_⟩
        refine sCallT_inl 400000 13 [.tmp 2] Try.func107 rfl rfl rfl rfl rfl (by exact of_decide_eq_true rfl) ?_
        simp -dsimp -implicitDefEqProofs only [go_sem, ↓reduceIte, Nat.reduceEqDiff, Nat.reduceLT, Nat.reduceAdd, Nat.reduceMul, Nat.reduceLeDiff, Nat.le_refl, Int.natCast_zero, Int.toNat_natCast, Int.reduceToNat, hd]
        (repeat' (first | (refine Br.intro (fun _ => ?_) (fun _ => ?_) <;> try simp -dsimp -implicitDefEqProofs only [go_sem, ↓reduceIte, Nat.reduceEqDiff, Nat.reduceLT, Nat.reduceAdd, Nat.reduceMul, Nat.reduceLeDiff, Nat.le_refl, Int.natCast_zero, Int.toNat_natCast, Int.reduceToNat, *]) | (with_reducible refine And.intro ?_ ?_) | (refine Later.draw mixed rfl ?_; try simp -dsimp -implicitDefEqProofs only [go_sem, ↓reduceIte, Nat.reduceEqDiff, Nat.reduceLT, Nat.reduceAdd, Nat.reduceMul, Nat.reduceLeDiff, Nat.le_refl, Int.natCast_zero, Int.toNat_natCast, Int.reduceToNat, *])))
        all_goals try (first | omega | (exact rfl))
        refine sCallT_inl 500000 84 [.tmp 4] Try.func112 rfl rfl rfl rfl rfl (by exact of_decide_eq_true rfl) ?_
        simp -dsimp -implicitDefEqProofs only [go_sem, ↓reduceIte, Nat.reduceEqDiff, Nat.reduceLT, Nat.reduceAdd, Nat.reduceMul, Nat.reduceLeDiff, Nat.le_refl, Int.natCast_zero, Int.toNat_natCast, Int.reduceToNat, hd, gn, hne, gc]
        ((repeat' (first | (refine Br.intro (fun _ => ?_) (fun _ => ?_) <;> try simp -dsimp -implicitDefEqProofs only [go_sem, ↓reduceIte, Nat.reduceEqDiff, Nat.reduceLT, Nat.reduceAdd, Nat.reduceMul, Nat.reduceLeDiff, Nat.le_refl, Int.natCast_zero, Int.toNat_natCast, Int.reduceToNat, *]) | (with_reducible refine And.intro ?_ ?_) | (refine Later.draw mixed rfl ?_; try simp -dsimp -implicitDefEqProofs only [go_sem, ↓reduceIte, Nat.reduceEqDiff, Nat.reduceLT, Nat.reduceAdd, Nat.reduceMul, Nat.reduceLeDiff, Nat.le_refl, Int.natCast_zero, Int.toNat_natCast, Int.reduceToNat, *]) | (refine sCallT_one (c_Contains z ps[i].depth hx) ?_; try simp -dsimp -implicitDefEqProofs only [go_sem, ↓reduceIte, Nat.reduceEqDiff, Nat.reduceLT, Nat.reduceAdd, Nat.reduceMul, Nat.reduceLeDiff, Nat.le_refl, Int.natCast_zero, Int.toNat_natCast, Int.reduceToNat, *]))); all_goals try (first | omega | (refine ⟨?_, ?_⟩ <;> omega) | (exact rfl) | (exact hI') | (simp; done) | (simp; omega) | (rw [List.map_set]; done) | trace_state))
  · have hmd := madeS_stop l o ps ps.length (Nat.le_refl _) hI (fun h => absurd h (Nat.lt_irrefl _))
    rw [hmd] at hk1
    clear hk2
    simp -dsimp -implicitDefEqProofs only [pick_nil, pick_cons, look_nil, look_cons, dropB_nil, dropB_cons, inD_nil, inD_cons, inE_nil, inE_cons, or_t_l, or_f_l, Nat.reduceBEq, Nat.reduceDiv, Nat.reduceAdd, beq_self_eq_true, Bool.false_eq_true, Bool.or_false, ↓reduceIte, Nat.reduceEqDiff, List.cons_append, List.nil_append]
    simp -dsimp -implicitDefEqProofs only [go_sem, ↓reduceIte, Nat.reduceEqDiff, Nat.reduceLT, Nat.reduceAdd, Nat.reduceMul, Nat.reduceLeDiff, Nat.le_refl, Int.natCast_zero, Int.toNat_natCast, Int.reduceToNat, nlt_len]
    repeat' first
      | (refine Br.intro (fun _ => ?_) (fun _ => ?_) <;> try simp -dsimp -implicitDefEqProofs only [go_sem, ↓reduceIte, Nat.reduceEqDiff, Nat.reduceLT, Nat.reduceAdd, Nat.reduceMul, Nat.reduceLeDiff, Nat.le_refl, Int.natCast_zero, Int.toNat_natCast, Int.reduceToNat, *])
      | (with_reducible refine And.intro ?_ ?_)
    all_goals first
      | omega
      | rfl
      | exact hk1
      | trace_state
end Go.Vc


/-
  Contracts of the functions on picking: many picks.
-/
set_option linter.unusedVariables false
set_option linter.unusedSimpArgs false
set_option linter.unnecessarySimpa false
namespace Go.Vc
open Go.Proofs
set_option maxRecDepth 100000
def pickAll (m : MkM) (l : List (List Int)) (o : List Int) (ps : List PkM) : List Int × Int × Int :=
  if pksCode m l o [] ps = 0 then (rowsL (o.take (runS l o ps ps.length).n), if (runS l o ps ps.length).n < o.length then -1 else madeS l o ps, 0) else ([], 0, pksCode m l o [] ps)
theorem pksCode_zero {m : MkM} {l : List (List Int)} {o s : List Int} {ps : List PkM} (h : pksCode m l o s ps = 0) : pkCode m l o s = 0 ∧ ps.all (pickOk m) = true := by
  unfold pksCode at h
  split at h
  · rename_i h1
    split at h
    · rename_i h2; exact ⟨h1, h2⟩
    · omega
  · contradiction
theorem madeS_le (l : List (List Int)) (o : List Int) (ps : List PkM) : madeS l o ps ≤ ps.length := by
  unfold madeS
  exact Nat.le_trans (List.length_filter_le _ _) (by simp)
theorem c_iCodeP (m : MkM) (l : List (List Int)) (o : List Int) (ps : List PkM) (h : l.length ≤ 1048576) (h2 : ∀ x ∈ l, x.length ≤ 1048576) (h3 : o.length ≤ 1048576) (h5 : ps.length ≤ 1048576) : Fn Try.prog 105 [eMk m, eLk l, eIs o, eNil, ePs ps] true (· = eI (pksCode m l o [] ps)) :=
  (c_pickCode m l o [] ps h h2 h3 (by simp) h5).subs (.cons (.refl _) (.cons (.refl _) (.cons (.refl _) (.cons (.nil _) (.cons (.refl _) .nil)))))
end Go.Vc


