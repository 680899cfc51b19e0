import Derived.Test.YtikfojjghnfjkaaPkLawPickedE
/-
  The contracts of the laws on picking that are drawn.
-/
set_option linter.unusedVariables false
set_option linter.unusedSimpArgs false
set_option linter.unnecessarySimpa false
namespace Go.Vc
open Go.Proofs
set_option maxRecDepth 100000
theorem fk_Pick : flatK Try.prog 75 = some [.int .i64, .int .i64] := by kernel_rfl
attribute [go_sem] fk_Pick
theorem bFF : (false == false) = true := rfl
theorem bTT : (true == true) = true := rfl
theorem fiveNe : ((5 : Int) == 0) = false := rfl
theorem m1Ge : decide ((-1 : Int) ≥ 0) = false := rfl
set_option maxHeartbeats 8000000 in
theorem c_FnPicked (bs : List UInt8) (h : bs.length ≤ 9223372036854775807) : Fn Try.prog 6 [eYs bs] true (· = eB true) := by
  refine Fn.of_vcN 164 [.tmp 2] Try.func6 rfl rfl rfl rfl rfl (of_decide_eq_true rfl) ?_
  simp -dsimp -implicitDefEqProofs only [go_sem, ↓reduceIte, Nat.reduceEqDiff, Nat.reduceLT, Nat.reduceAdd, Nat.reduceMul, Nat.reduceLeDiff, Nat.le_refl, Int.natCast_zero, Int.toNat_natCast, Int.reduceToNat]
  refine sCallT_one (c_big bs h) ?_
  rcases hb : decide ((bs.length : Int) > 4096) with _ | _
  rotate_left
  · simp -dsimp -implicitDefEqProofs only [go_sem, ↓reduceIte, Nat.reduceEqDiff, Nat.reduceLT, Nat.reduceAdd, Nat.reduceMul, Nat.reduceLeDiff, Nat.le_refl, Int.natCast_zero, Int.toNat_natCast, Int.reduceToNat, hb]
  have hl : bs.length ≤ 4096 := by have := of_decide_eq_false hb; omega
  have d1 := c_DrawPickAll bs hl
  obtain ⟨k1, k2, k3, k4⟩ := lkD_facts (bs := bs) (src0_ok bs)
  generalize hp : lkD bs (src0 bs) = p at *
  obtain ⟨m, l, s1⟩ := p
  dsimp only at *
  obtain ⟨o1, o2, o3⟩ := ordD_ok (bs := bs) k1 k4
  generalize ordD bs m s1 = o at *
  obtain ⟨o, s2⟩ := o
  dsimp only at *
  have hpl := picksD_len (bs := bs) (m := m) (l := l) (o := o) o1
  generalize picksD bs m l o s2 = ps at *
  have h1 : l.length ≤ 1048576 := by omega
  have h2 : ∀ x ∈ l, x.length ≤ 1048576 := fun x hx => by have := k3 x hx; omega
  have h3 : o.length ≤ 1048576 := by omega
  have h5 : ps.length ≤ 1048576 := by omega
  have q1 := c_iPickAll m l o ps h1 h2 h3 h5
  have q2 := c_sPickAll m l o ps h1 h2 h3 h5
  have q3 := c_iKeyFrom m l o ps h1 h2 h3 h5
  have q4 := c_sKeyFrom m l o ps h1 h2 h3 h5
  have q5 := c_iFallsOf m l o ps h1 h2 h3 h5
  have q6 := c_sFallsOf m l o ps h1 h2 h3 h5
  by_cases hc : pksCode m l o [] ps = 0
  rotate_left
  · have e1 : pickAll m l o ps = ([], 0, pksCode m l o [] ps) := by rw [pickAll, if_neg hc]
    have e2 : keyFrom m l o ps = ([], pksCode m l o [] ps) := by rw [keyFrom, if_neg hc]
    have e3 : fallsOf m l o ps = (0, pksCode m l o [] ps) := by rw [fallsOf, if_neg hc]
    have hne : (pksCode m l o [] ps != 0) = true := by simpa using hc
    have r1 := c_likeIntsE [] (by simp)
    rw [e1] at q1 q2
    rw [e2] at q3 q4
    rw [e3] at q5 q6
    dsimp only at *
    generalize pksCode m l o [] ps = z at *
    simp -dsimp -implicitDefEqProofs only [go_sem, ↓reduceIte, Nat.reduceEqDiff, Nat.reduceLT, Nat.reduceAdd, Nat.reduceMul, Nat.reduceLeDiff, Nat.le_refl, Int.natCast_zero, Int.toNat_natCast, Int.reduceToNat, hb]
    (refine sCallS_one (d1) (by simp [noLabs, labs, isClo]) ?_; simp -dsimp -implicitDefEqProofs only [go_sem, ↓reduceIte, Nat.reduceEqDiff, Nat.reduceLT, Nat.reduceAdd, Nat.reduceMul, Nat.reduceLeDiff, Nat.le_refl, Int.natCast_zero, Int.toNat_natCast, Int.reduceToNat])
    (refine sCallT_one (q1) ?_; simp -dsimp -implicitDefEqProofs only [go_sem, ↓reduceIte, Nat.reduceEqDiff, Nat.reduceLT, Nat.reduceAdd, Nat.reduceMul, Nat.reduceLeDiff, Nat.le_refl, Int.natCast_zero, Int.toNat_natCast, Int.reduceToNat])
    (refine sCallT_one (q2) ?_; simp -dsimp -implicitDefEqProofs only [go_sem, ↓reduceIte, Nat.reduceEqDiff, Nat.reduceLT, Nat.reduceAdd, Nat.reduceMul, Nat.reduceLeDiff, Nat.le_refl, Int.natCast_zero, Int.toNat_natCast, Int.reduceToNat])
    (refine sCallT_one (q3) ?_; simp -dsimp -implicitDefEqProofs only [go_sem, ↓reduceIte, Nat.reduceEqDiff, Nat.reduceLT, Nat.reduceAdd, Nat.reduceMul, Nat.reduceLeDiff, Nat.le_refl, Int.natCast_zero, Int.toNat_natCast, Int.reduceToNat])
    (refine sCallT_one (q4) ?_; simp -dsimp -implicitDefEqProofs only [go_sem, ↓reduceIte, Nat.reduceEqDiff, Nat.reduceLT, Nat.reduceAdd, Nat.reduceMul, Nat.reduceLeDiff, Nat.le_refl, Int.natCast_zero, Int.toNat_natCast, Int.reduceToNat])
    (refine sCallT_one (q5) ?_; simp -dsimp -implicitDefEqProofs only [go_sem, ↓reduceIte, Nat.reduceEqDiff, Nat.reduceLT, Nat.reduceAdd, Nat.reduceMul, Nat.reduceLeDiff, Nat.le_refl, Int.natCast_zero, Int.toNat_natCast, Int.reduceToNat])
    (refine sCallT_one (q6) ?_; simp -dsimp -implicitDefEqProofs only [go_sem, ↓reduceIte, Nat.reduceEqDiff, Nat.reduceLT, Nat.reduceAdd, Nat.reduceMul, Nat.reduceLeDiff, Nat.le_refl, Int.natCast_zero, Int.toNat_natCast, Int.reduceToNat])
    (refine sCallT_one (r1) ?_; simp -dsimp -implicitDefEqProofs only [go_sem, ↓reduceIte, Nat.reduceEqDiff, Nat.reduceLT, Nat.reduceAdd, Nat.reduceMul, Nat.reduceLeDiff, Nat.le_refl, Int.natCast_zero, Int.toNat_natCast, Int.reduceToNat])
    (refine sCallT_one (r1) ?_; simp -dsimp -implicitDefEqProofs only [go_sem, ↓reduceIte, Nat.reduceEqDiff, Nat.reduceLT, Nat.reduceAdd, Nat.reduceMul, Nat.reduceLeDiff, Nat.le_refl, Int.natCast_zero, Int.toNat_natCast, Int.reduceToNat])
    simp -dsimp -implicitDefEqProofs only [go_sem, ↓reduceIte, Nat.reduceEqDiff, Nat.reduceLT, Nat.reduceAdd, Nat.reduceMul, Nat.reduceLeDiff, Nat.le_refl, Int.natCast_zero, Int.toNat_natCast, Int.reduceToNat, hne]
  obtain ⟨hc1, hpa⟩ := pksCode_zero hc
  obtain ⟨hk, ho, _⟩ := pkCode_zero hc1
  have ph := Pk.of hk ho
  have n6 := ph.n6
  have hch := ph.ch
  have hn := runS_n l o ps ps.length
  have hfa := runS_falls l o ps ps.length
  have hcu := runS_cuts l o ps ps.length
  have hrl := rowsL_nodup (nodup_take' ph.nd (runS l o ps ps.length).n)
  have e1 : pickAll m l o ps = (rowsL (o.take (runS l o ps ps.length).n), if (runS l o ps ps.length).n < o.length then -1 else (madeS l o ps : Int), 0) := by rw [pickAll, if_pos hc]
  have e3 : fallsOf m l o ps = ((runS l o ps ps.length).falls, 0) := by rw [fallsOf, if_pos hc]
  rw [e1] at q1 q2
  rw [e3] at q5 q6
  dsimp only at *
  have r1 := c_likeIntsE (rowsL (o.take (runS l o ps ps.length).n)) (by rw [hrl]; simp; omega)
  have hfl : decide ((runS l o ps ps.length).falls < 0) = false := decide_eq_false (by omega)
  rcases Nat.lt_or_ge (runS l o ps ps.length).n o.length with hlt | hge
  · have e2 : keyFrom m l o ps = ([], 5) := by rw [keyFrom, if_pos hc, if_pos hlt]
    rw [e2] at q3 q4
    rw [if_pos hlt] at q1 q2
    have r2 := c_likeIntsE [] (by simp)
    dsimp only at *
    have hrl2 : (rowsL (o.take (runS l o ps ps.length).n)).length < o.length := by rw [hrl]; simp; omega
    generalize rowsL (o.take (runS l o ps ps.length).n) = R at *
    have f1 : ((R.length : Int) == m.chambers) = false := by simp; omega
    generalize (runS l o ps ps.length).falls = fa at *
    simp -dsimp -implicitDefEqProofs only [go_sem, ↓reduceIte, Nat.reduceEqDiff, Nat.reduceLT, Nat.reduceAdd, Nat.reduceMul, Nat.reduceLeDiff, Nat.le_refl, Int.natCast_zero, Int.toNat_natCast, Int.reduceToNat, hb]
    (refine sCallS_one (d1) (by simp [noLabs, labs, isClo]) ?_; simp -dsimp -implicitDefEqProofs only [go_sem, ↓reduceIte, Nat.reduceEqDiff, Nat.reduceLT, Nat.reduceAdd, Nat.reduceMul, Nat.reduceLeDiff, Nat.le_refl, Int.natCast_zero, Int.toNat_natCast, Int.reduceToNat])
    (refine sCallT_one (q1) ?_; simp -dsimp -implicitDefEqProofs only [go_sem, ↓reduceIte, Nat.reduceEqDiff, Nat.reduceLT, Nat.reduceAdd, Nat.reduceMul, Nat.reduceLeDiff, Nat.le_refl, Int.natCast_zero, Int.toNat_natCast, Int.reduceToNat])
    (refine sCallT_one (q2) ?_; simp -dsimp -implicitDefEqProofs only [go_sem, ↓reduceIte, Nat.reduceEqDiff, Nat.reduceLT, Nat.reduceAdd, Nat.reduceMul, Nat.reduceLeDiff, Nat.le_refl, Int.natCast_zero, Int.toNat_natCast, Int.reduceToNat])
    (refine sCallT_one (q3) ?_; simp -dsimp -implicitDefEqProofs only [go_sem, ↓reduceIte, Nat.reduceEqDiff, Nat.reduceLT, Nat.reduceAdd, Nat.reduceMul, Nat.reduceLeDiff, Nat.le_refl, Int.natCast_zero, Int.toNat_natCast, Int.reduceToNat])
    (refine sCallT_one (q4) ?_; simp -dsimp -implicitDefEqProofs only [go_sem, ↓reduceIte, Nat.reduceEqDiff, Nat.reduceLT, Nat.reduceAdd, Nat.reduceMul, Nat.reduceLeDiff, Nat.le_refl, Int.natCast_zero, Int.toNat_natCast, Int.reduceToNat])
    (refine sCallT_one (q5) ?_; simp -dsimp -implicitDefEqProofs only [go_sem, ↓reduceIte, Nat.reduceEqDiff, Nat.reduceLT, Nat.reduceAdd, Nat.reduceMul, Nat.reduceLeDiff, Nat.le_refl, Int.natCast_zero, Int.toNat_natCast, Int.reduceToNat])
    (refine sCallT_one (q6) ?_; simp -dsimp -implicitDefEqProofs only [go_sem, ↓reduceIte, Nat.reduceEqDiff, Nat.reduceLT, Nat.reduceAdd, Nat.reduceMul, Nat.reduceLeDiff, Nat.le_refl, Int.natCast_zero, Int.toNat_natCast, Int.reduceToNat])
    (refine sCallT_one (r1) ?_; simp -dsimp -implicitDefEqProofs only [go_sem, ↓reduceIte, Nat.reduceEqDiff, Nat.reduceLT, Nat.reduceAdd, Nat.reduceMul, Nat.reduceLeDiff, Nat.le_refl, Int.natCast_zero, Int.toNat_natCast, Int.reduceToNat])
    (refine sCallT_one (r2) ?_; simp -dsimp -implicitDefEqProofs only [go_sem, ↓reduceIte, Nat.reduceEqDiff, Nat.reduceLT, Nat.reduceAdd, Nat.reduceMul, Nat.reduceLeDiff, Nat.le_refl, Int.natCast_zero, Int.toNat_natCast, Int.reduceToNat])
    simp -dsimp -implicitDefEqProofs only [go_sem, ↓reduceIte, Nat.reduceEqDiff, Nat.reduceLT, Nat.reduceAdd, Nat.reduceMul, Nat.reduceLeDiff, Nat.le_refl, Int.natCast_zero, Int.toNat_natCast, Int.reduceToNat, m1Ge, fiveNe, bFF, f1, hfl]
    refine Later.up [4, 13, 15] [149, 162] [] 0 (fun _ => True) (fun i => [(21, eI i)]) (fun _ => []) trivial ?_ rfl (fun i hi _ => absurd hi (Nat.not_lt_zero _)) (fun _ => ?_)
    · simp -dsimp -implicitDefEqProofs only [go_sem, ↓reduceIte, Nat.reduceEqDiff, Nat.reduceLT, Nat.reduceAdd, Nat.reduceMul, Nat.reduceLeDiff, Nat.le_refl, Int.natCast_zero, Int.toNat_natCast, Int.reduceToNat]
    · have z0 : decide (((0 : Nat) : Int) < ((0 : Nat) : Int)) = false := rfl
      simp -dsimp -implicitDefEqProofs only [pick_nil, pick_cons, look_nil, look_cons, dropB_nil, dropB_cons, inD_nil, inD_cons, inE_nil, inE_cons, or_t_l, or_f_l, Nat.reduceBEq, Nat.reduceDiv, Nat.reduceAdd, beq_self_eq_true, Bool.false_eq_true, Bool.or_false, ↓reduceIte, Nat.reduceEqDiff, List.cons_append, List.nil_append]
      have z1 : decide ((0 : Int) < 0) = false := rfl
      simp -dsimp -implicitDefEqProofs only [go_sem, ↓reduceIte, Nat.reduceEqDiff, Nat.reduceLT, Nat.reduceAdd, Nat.reduceMul, Nat.reduceLeDiff, Nat.le_refl, Int.natCast_zero, Int.toNat_natCast, Int.reduceToNat, z0, z1]
  · have hfull : (runS l o ps ps.length).n = o.length := by omega
    have hhas := fun c hc => runS_full ph hpa hfull (c := c) hc
    have hmd := made_ge hfull
    have hmd2 := madeS_le l o ps
    have e2 : keyFrom m l o ps = ((runS l o ps ps.length).cuts, 0) := by rw [keyFrom, if_pos hc, if_neg (by omega)]
    rw [e2] at q3 q4
    rw [if_neg (by omega)] at q1 q2
    have r2 := c_likeIntsE (runS l o ps ps.length).cuts (by omega)
    dsimp only at *
    have hrl2 : (rowsL (o.take (runS l o ps ps.length).n)).length = o.length := by rw [hrl]; simp; omega
    generalize rowsL (o.take (runS l o ps ps.length).n) = R at *
    have f1 : ((R.length : Int) == m.chambers) = true := by simp; omega
    generalize (runS l o ps ps.length).falls = fa at *
    generalize (runS l o ps ps.length).cuts = cu at *
    generalize madeS l o ps = md at *
    have f2 : decide ((md : Int) ≥ 0) = true := decide_eq_true (by omega)
    have f3 : decide ((md : Int) < m.chambers) = false := decide_eq_false (by omega)
    simp -dsimp -implicitDefEqProofs only [go_sem, ↓reduceIte, Nat.reduceEqDiff, Nat.reduceLT, Nat.reduceAdd, Nat.reduceMul, Nat.reduceLeDiff, Nat.le_refl, Int.natCast_zero, Int.toNat_natCast, Int.reduceToNat, hb]
    (refine sCallS_one (d1) (by simp [noLabs, labs, isClo]) ?_; simp -dsimp -implicitDefEqProofs only [go_sem, ↓reduceIte, Nat.reduceEqDiff, Nat.reduceLT, Nat.reduceAdd, Nat.reduceMul, Nat.reduceLeDiff, Nat.le_refl, Int.natCast_zero, Int.toNat_natCast, Int.reduceToNat])
    (refine sCallT_one (q1) ?_; simp -dsimp -implicitDefEqProofs only [go_sem, ↓reduceIte, Nat.reduceEqDiff, Nat.reduceLT, Nat.reduceAdd, Nat.reduceMul, Nat.reduceLeDiff, Nat.le_refl, Int.natCast_zero, Int.toNat_natCast, Int.reduceToNat])
    (refine sCallT_one (q2) ?_; simp -dsimp -implicitDefEqProofs only [go_sem, ↓reduceIte, Nat.reduceEqDiff, Nat.reduceLT, Nat.reduceAdd, Nat.reduceMul, Nat.reduceLeDiff, Nat.le_refl, Int.natCast_zero, Int.toNat_natCast, Int.reduceToNat])
    (refine sCallT_one (q3) ?_; simp -dsimp -implicitDefEqProofs only [go_sem, ↓reduceIte, Nat.reduceEqDiff, Nat.reduceLT, Nat.reduceAdd, Nat.reduceMul, Nat.reduceLeDiff, Nat.le_refl, Int.natCast_zero, Int.toNat_natCast, Int.reduceToNat])
    (refine sCallT_one (q4) ?_; simp -dsimp -implicitDefEqProofs only [go_sem, ↓reduceIte, Nat.reduceEqDiff, Nat.reduceLT, Nat.reduceAdd, Nat.reduceMul, Nat.reduceLeDiff, Nat.le_refl, Int.natCast_zero, Int.toNat_natCast, Int.reduceToNat])
    (refine sCallT_one (q5) ?_; simp -dsimp -implicitDefEqProofs only [go_sem, ↓reduceIte, Nat.reduceEqDiff, Nat.reduceLT, Nat.reduceAdd, Nat.reduceMul, Nat.reduceLeDiff, Nat.le_refl, Int.natCast_zero, Int.toNat_natCast, Int.reduceToNat])
    (refine sCallT_one (q6) ?_; simp -dsimp -implicitDefEqProofs only [go_sem, ↓reduceIte, Nat.reduceEqDiff, Nat.reduceLT, Nat.reduceAdd, Nat.reduceMul, Nat.reduceLeDiff, Nat.le_refl, Int.natCast_zero, Int.toNat_natCast, Int.reduceToNat])
    (refine sCallT_one (r1) ?_; simp -dsimp -implicitDefEqProofs only [go_sem, ↓reduceIte, Nat.reduceEqDiff, Nat.reduceLT, Nat.reduceAdd, Nat.reduceMul, Nat.reduceLeDiff, Nat.le_refl, Int.natCast_zero, Int.toNat_natCast, Int.reduceToNat])
    (refine sCallT_one (r2) ?_; simp -dsimp -implicitDefEqProofs only [go_sem, ↓reduceIte, Nat.reduceEqDiff, Nat.reduceLT, Nat.reduceAdd, Nat.reduceMul, Nat.reduceLeDiff, Nat.le_refl, Int.natCast_zero, Int.toNat_natCast, Int.reduceToNat])
    simp -dsimp -implicitDefEqProofs only [go_sem, ↓reduceIte, Nat.reduceEqDiff, Nat.reduceLT, Nat.reduceAdd, Nat.reduceMul, Nat.reduceLeDiff, Nat.le_refl, Int.natCast_zero, Int.toNat_natCast, Int.reduceToNat, f2, f3, f1, hfl, bTT]
    refine Later.up [4, 13, 15] [149, 162] [] cu.length (fun _ => True) (fun i => [(21, eI i)]) (fun _ => []) trivial ?_ rfl (fun i hi _ => ?_) (fun _ => ?_)
    · simp -dsimp -implicitDefEqProofs only [go_sem, ↓reduceIte, Nat.reduceEqDiff, Nat.reduceLT, Nat.reduceAdd, Nat.reduceMul, Nat.reduceLeDiff, Nat.le_refl, Int.natCast_zero, Int.toNat_natCast, Int.reduceToNat]
    · have hio : i < o.length := by omega
      have hil : i < l.length := by have := ph.ln; omega
      have gl := get_some hil
      have gc := get_some hi
      have hh := hhas i hio
      have e5 : cset l (i : Int) = l[i] := by simp [cset, List.getD_eq_getElem?_getD, hil]
      have e6 : cu.getD i 0 = cu[i] := getD_eq hi
      rw [e5, e6] at hh
      have hx := k3 _ (List.getElem_mem hil)
      have y1 := c_hasInt l[i] cu[i] (by omega)
      rw [hh] at y1
      have lc := lt_len hi
      generalize l[i] = sl at *
      generalize cu[i] = sc at *
      simp -dsimp -implicitDefEqProofs only [pick_nil, pick_cons, look_nil, look_cons, dropB_nil, dropB_cons, inD_nil, inD_cons, inE_nil, inE_cons, or_t_l, or_f_l, Nat.reduceBEq, Nat.reduceDiv, Nat.reduceAdd, beq_self_eq_true, Bool.false_eq_true, Bool.or_false, ↓reduceIte, Nat.reduceEqDiff, List.cons_append, List.nil_append]
      simp -dsimp -implicitDefEqProofs only [go_sem, ↓reduceIte, Nat.reduceEqDiff, Nat.reduceLT, Nat.reduceAdd, Nat.reduceMul, Nat.reduceLeDiff, Nat.le_refl, Int.natCast_zero, Int.toNat_natCast, Int.reduceToNat, lc]
      refine Later.draw mixed rfl ?_
      simp -dsimp -implicitDefEqProofs only [go_sem, ↓reduceIte, Nat.reduceEqDiff, Nat.reduceLT, Nat.reduceAdd, Nat.reduceMul, Nat.reduceLeDiff, Nat.le_refl, Int.natCast_zero, Int.toNat_natCast, Int.reduceToNat, gl, gc]
      ((repeat' (with_reducible refine And.intro ?_ ?_)); all_goals try (first | omega | (refine ⟨?_, ?_⟩ <;> omega) | (exact rfl)))
      refine sCallX_one y1 ?_
      simp -dsimp -implicitDefEqProofs only [go_sem, ↓reduceIte, Nat.reduceEqDiff, Nat.reduceLT, Nat.reduceAdd, Nat.reduceMul, Nat.reduceLeDiff, Nat.le_refl, Int.natCast_zero, Int.toNat_natCast, Int.reduceToNat]
      ((repeat' (with_reducible refine And.intro ?_ ?_)); all_goals try (first | omega | (refine ⟨?_, ?_⟩ <;> omega) | (exact rfl)))
    · simp -dsimp -implicitDefEqProofs only [pick_nil, pick_cons, look_nil, look_cons, dropB_nil, dropB_cons, inD_nil, inD_cons, inE_nil, inE_cons, or_t_l, or_f_l, Nat.reduceBEq, Nat.reduceDiv, Nat.reduceAdd, beq_self_eq_true, Bool.false_eq_true, Bool.or_false, ↓reduceIte, Nat.reduceEqDiff, List.cons_append, List.nil_append]
      simp -dsimp -implicitDefEqProofs only [go_sem, ↓reduceIte, Nat.reduceEqDiff, Nat.reduceLT, Nat.reduceAdd, Nat.reduceMul, Nat.reduceLeDiff, Nat.le_refl, Int.natCast_zero, Int.toNat_natCast, Int.reduceToNat, nlt_len]
end Go.Vc


