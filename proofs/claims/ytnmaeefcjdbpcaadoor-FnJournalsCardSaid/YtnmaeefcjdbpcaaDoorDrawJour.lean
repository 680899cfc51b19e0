/-
  Contracts: events and texts of journals that are drawn.
-/
import Derived.Test.YtnmaeefcjdbpcaaDoorSrc2
import Derived.Test.YtnmaeefcjdbpcaaDoorJourX
set_option linter.unusedVariables false
set_option linter.unusedSimpArgs false
set_option linter.unnecessarySimpa false
namespace Go.Vc
open Go.Proofs
set_option maxRecDepth 100000
def drawK (bs : List UInt8) : Nat → List EvM → Src → List EvM × Src
  | 0, out, s => (out, s)
  | k + 1, out, s =>
    if (nx bs 5 s).1 = 0 then drawK bs k (out ++ [⟨(nx bs 5 s).1, (nx bs 20 (nx bs 5 s).2).1, (nx bs 10 (nx bs 10 (nx bs 20 (nx bs 5 s).2).2).2).1, (nx bs 10 (nx bs 20 (nx bs 5 s).2).2).1⟩]) (nx bs 10 (nx bs 10 (nx bs 20 (nx bs 5 s).2).2).2).2
    else drawK bs k (out ++ [⟨(nx bs 5 s).1, (nx bs 20 (nx bs 5 s).2).1, -1, (nx bs 10 (nx bs 20 (nx bs 5 s).2).2).1⟩]) (nx bs 10 (nx bs 20 (nx bs 5 s).2).2).2
theorem drawK_ok (bs : List UInt8) : ∀ (k : Nat) (out : List EvM) (s : Src), SrcOk s → SrcOk (drawK bs k out s).2 ∧ (drawK bs k out s).1.length = out.length + k
  | 0, _, _, h => ⟨h, rfl⟩
  | k + 1, out, s, h => by
    have o1 := (nx_ok bs 5 h).2.2.2
    have o2 := (nx_ok bs 20 o1).2.2.2
    have o3 := (nx_ok bs 10 o2).2.2.2
    have o4 := (nx_ok bs 10 o3).2.2.2
    rw [drawK]
    split
    · have := drawK_ok bs k (out ++ [⟨(nx bs 5 s).1, (nx bs 20 (nx bs 5 s).2).1, (nx bs 10 (nx bs 10 (nx bs 20 (nx bs 5 s).2).2).2).1, (nx bs 10 (nx bs 20 (nx bs 5 s).2).2).1⟩]) _ o4
      refine ⟨this.1, this.2.trans ?_⟩
      rw [List.length_append, List.length_singleton]; omega
    · have := drawK_ok bs k (out ++ [⟨(nx bs 5 s).1, (nx bs 20 (nx bs 5 s).2).1, -1, (nx bs 10 (nx bs 20 (nx bs 5 s).2).2).1⟩]) _ o3
      refine ⟨this.1, this.2.trans ?_⟩
      rw [List.length_append, List.length_singleton]; omega
def fillJ (bs : List UInt8) : Nat → List EvM → Src → List EvM × Src
  | 0, out, s => (out, s)
  | k + 1, out, s => if (out.length : Int) < 60 + (nx bs 2 s).1 then fillJ bs k (out ++ [⟨0, 0, 0, 0⟩]) (nx bs 2 s).2 else (out, (nx bs 2 s).2)
theorem fillJ_ok (bs : List UInt8) : ∀ (k : Nat) (out : List EvM) (s : Src), SrcOk s → out.length ≤ 61 → SrcOk (fillJ bs k out s).2 ∧ (fillJ bs k out s).1.length ≤ 61
  | 0, _, _, h, hl => ⟨h, hl⟩
  | k + 1, out, s, h, hl => by
    have h2 := nx_ok bs 2 h
    rw [fillJ]
    split
    · rename_i hlt
      have := h2.2.2.1 (by omega)
      exact fillJ_ok bs k _ _ h2.2.2.2 (by rw [List.length_append, List.length_singleton]; omega)
    · exact ⟨h2.2.2.2, hl⟩
def tailJ (bs : List UInt8) (out : List EvM) (b : Int × Src) : List EvM × Src :=
  if b.1 = 0 then
    (out ++ [⟨(pk bs [-1, 0, 5] b.2).1, (pk bs [-1, 0, 20] (pk bs [-1, 0, 5] b.2).2).1, (pk bs [-1, 0, 10] (pk bs [-1, 0, 20] (pk bs [-1, 0, 5] b.2).2).2).1,
      (pk bs [-1, 0, 10] (pk bs [-1, 0, 10] (pk bs [-1, 0, 20] (pk bs [-1, 0, 5] b.2).2).2).2).1⟩], (pk bs [-1, 0, 10] (pk bs [-1, 0, 10] (pk bs [-1, 0, 20] (pk bs [-1, 0, 5] b.2).2).2).2).2)
  else if b.1 = 1 then fillJ bs 62 out b.2
  else if b.1 = 2 then (List.replicate (54 + (nx bs 7 b.2).1).toNat ⟨4, 19, -1, 9⟩, (nx bs 7 b.2).2)
  else (out, b.2)
def restJ (bs : List UInt8) (p : List EvM × Src) : List EvM × Src := tailJ bs p.1 (nx bs 30 p.2)
def drawJ (bs : List UInt8) (s : Src) : List EvM × Src := restJ bs (drawK bs (nx bs 7 s).1.toNat [] (nx bs 7 s).2)
theorem drawJ_ok (bs : List UInt8) {s : Src} (h : SrcOk s) : SrcOk (drawJ bs s).2 ∧ (drawJ bs s).1.length ≤ 61 := by
  have h1 := nx_ok bs 7 h
  have h2 := h1.2.2.1 (by omega)
  have h3 := drawK_ok bs (nx bs 7 s).1.toNat [] _ h1.2.2.2
  unfold drawJ restJ
  generalize drawK bs (nx bs 7 s).1.toNat [] (nx bs 7 s).2 = q at *
  obtain ⟨out, s1⟩ := q
  simp only [List.length_nil] at h3
  have g := (nx_ok bs 30 h3.1).2.2.2
  dsimp only at g ⊢
  generalize nx bs 30 s1 = b at *
  unfold tailJ
  split
  · exact ⟨pk_ok bs _ (pk_ok bs _ (pk_ok bs _ (pk_ok bs _ g))), by simp; omega⟩
  · split
    · exact fillJ_ok bs 62 _ _ g (by omega)
    · split
      · have k1 := nx_ok bs 7 g
        have k2 := k1.2.2.1 (by omega)
        exact ⟨k1.2.2.2, by simp; omega⟩
      · exact ⟨g, by dsimp only; omega⟩
attribute [irreducible] tailJ
set_option maxHeartbeats 8000000 in
theorem c_l31Draw (v : Nat) (bs : List UInt8) (s : Src) (h : SrcOk s) (hl : bs.length ≤ 4096) :
    FnM Tryd.prog 66 [srcB v bs s] [.ptr 1000000000 v 0 0] (fun x io => x = eEvs (drawJ bs s).1 ∧ io = [srcB v bs (drawJ bs s).2]) := by
  refine FnM.of_vc 80 [.tmp 2] Tryd.func66 rfl rfl rfl rfl rfl (of_decide_eq_true rfl) ?_
  obtain ⟨res, hres⟩ : ∃ res, drawJ bs s = res := ⟨_, rfl⟩
  rw [hres]
  unfold drawJ at hres
  have h1 := nx_ok bs 7 h
  have h2 := h1.2.2.1 (by omega)
  simp -dsimp -implicitDefEqProofs only [go_sem, ↓reduceIte, Nat.reduceEqDiff, Nat.reduceLT, Nat.reduceAdd, Nat.reduceMul, Nat.reduceLeDiff, Nat.le_refl, Int.natCast_zero, Int.toNat_natCast, Int.reduceToNat]
  repeat' (with_reducible refine And.intro ?_ ?_)
  all_goals try (first | omega | (refine ⟨?_, ?_⟩ <;> omega) | (exact rfl) | (simp; done))
  (refine sCallT_io [1000000000] ?_; simp -dsimp -implicitDefEqProofs only [go_sem, ↓reduceIte, Nat.reduceEqDiff, Nat.reduceLT, Nat.reduceAdd, Nat.reduceMul, Nat.reduceLeDiff, Nat.le_refl, Int.natCast_zero, Int.toNat_natCast, Int.reduceToNat]; refine sCallM_one (c_l01Next _ bs 7 _ h hl) ?_; simp -dsimp -implicitDefEqProofs only [go_sem, ↓reduceIte, Nat.reduceEqDiff, Nat.reduceLT, Nat.reduceAdd, Nat.reduceMul, Nat.reduceLeDiff, Nat.le_refl, Int.natCast_zero, Int.toNat_natCast, Int.reduceToNat])
  generalize nx bs 7 s = a at *
  refine Later.lp [0] [5, 16, 18, 20, 26, 30, 31] [8, 1000000000] (fun x : Nat × List EvM × Src => SrcOk x.2.2 ∧ x.1 + x.2.1.length ≤ 6 ∧ restJ bs (drawK bs x.1 x.2.1 x.2.2) = res)
    (fun x => [(4, eI x.1), (3, .ref 8 0 0 x.2.1.length)]) (fun x => [(8, .row 0 ⟨4, true⟩ true (x.2.1.map eEv)), (1000000000, srcB v bs x.2.2)]) (fun x => x.1) (a.1.toNat, [], a.2) ⟨h1.2.2.2, by simp; omega, hres⟩ ?_ rfl (fun x hI => ?_)
  · dsimp only
    rw [show ((a.1.toNat : Nat) : Int) = a.1 by omega]
    simp -dsimp -implicitDefEqProofs only [go_sem, ↓reduceIte, Nat.reduceEqDiff, Nat.reduceLT, Nat.reduceAdd, Nat.reduceMul, Nat.reduceLeDiff, Nat.le_refl, Int.natCast_zero, Int.toNat_natCast, Int.reduceToNat]
  · obtain ⟨k, out, s⟩ := x
    obtain ⟨q1, q2, q3⟩ := hI
    dsimp only at q1 q2 q3 ⊢
    clear h1 h2 h hres
    cases k with
    | zero =>
      have hk0 : decide ((0 : Int) > 0) = false := rfl
      have g1 := nx_ok bs 30 q1
      have hr : tailJ bs out (nx bs 30 s) = res := q3
      unfold tailJ at hr
      clear q3
      have hcn := fun v => c_l01Next v bs 30 s q1 hl
      generalize nx bs 30 s = b at *
      simp -dsimp -implicitDefEqProofs only [pick_nil, pick_cons, look_nil, look_cons, dropB_nil, dropB_cons, inD_nil, inD_cons, inE_nil, inE_cons, or_t_l, or_f_l, Nat.reduceBEq, Nat.reduceDiv, Nat.reduceAdd, beq_self_eq_true, Bool.false_eq_true, Bool.or_false, ↓reduceIte, Nat.reduceEqDiff, List.cons_append, List.nil_append]
      simp -dsimp -implicitDefEqProofs only [go_sem, ↓reduceIte, Nat.reduceEqDiff, Nat.reduceLT, Nat.reduceAdd, Nat.reduceMul, Nat.reduceLeDiff, Nat.le_refl, Int.natCast_zero, Int.toNat_natCast, Int.reduceToNat, hk0]
      (refine sCallT_io [1000000000] ?_; simp -dsimp -implicitDefEqProofs only [go_sem, ↓reduceIte, Nat.reduceEqDiff, Nat.reduceLT, Nat.reduceAdd, Nat.reduceMul, Nat.reduceLeDiff, Nat.le_refl, Int.natCast_zero, Int.toNat_natCast, Int.reduceToNat]; refine sCallM_one (hcn _) ?_; simp -dsimp -implicitDefEqProofs only [go_sem, ↓reduceIte, Nat.reduceEqDiff, Nat.reduceLT, Nat.reduceAdd, Nat.reduceMul, Nat.reduceLeDiff, Nat.le_refl, Int.natCast_zero, Int.toNat_natCast, Int.reduceToNat])
      rcases hb0 : (b.1 == 0) with _ | _
      · rw [if_neg (by simpa using hb0)] at hr
        simp -dsimp -implicitDefEqProofs only [go_sem, ↓reduceIte, Nat.reduceEqDiff, Nat.reduceLT, Nat.reduceAdd, Nat.reduceMul, Nat.reduceLeDiff, Nat.le_refl, Int.natCast_zero, Int.toNat_natCast, Int.reduceToNat, hb0]
        rcases hb1 : (b.1 == 1) with _ | _
        · rw [if_neg (by simpa using hb1)] at hr
          simp -dsimp -implicitDefEqProofs only [go_sem, ↓reduceIte, Nat.reduceEqDiff, Nat.reduceLT, Nat.reduceAdd, Nat.reduceMul, Nat.reduceLeDiff, Nat.le_refl, Int.natCast_zero, Int.toNat_natCast, Int.reduceToNat, hb1]
          rcases hb2 : (b.1 == 2) with _ | _
          · rw [if_neg (by simpa using hb2)] at hr
            subst hr
            simp -dsimp -implicitDefEqProofs only [go_sem, ↓reduceIte, Nat.reduceEqDiff, Nat.reduceLT, Nat.reduceAdd, Nat.reduceMul, Nat.reduceLeDiff, Nat.le_refl, Int.natCast_zero, Int.toNat_natCast, Int.reduceToNat, hb2]
            repeat' (with_reducible refine And.intro ?_ ?_)
            all_goals try (first | omega | (refine ⟨?_, ?_⟩ <;> omega) | (exact rfl) | (simp; done))
            all_goals try exact ⟨rfl, rfl⟩
          · rw [if_pos (by simpa using hb2)] at hr
            simp -dsimp -implicitDefEqProofs only [go_sem, ↓reduceIte, Nat.reduceEqDiff, Nat.reduceLT, Nat.reduceAdd, Nat.reduceMul, Nat.reduceLeDiff, Nat.le_refl, Int.natCast_zero, Int.toNat_natCast, Int.reduceToNat, hb2]
            have f1 := nx_ok bs 7 g1.2.2.2
            have f2 := f1.2.2.1 (by omega)
            have hcn := fun v => c_l01Next v bs 7 b.2 g1.2.2.2 hl
            generalize nx bs 7 b.2 = d at *
            have o1 := f1.2.2.2
            (refine sCallT_io [1000000000] ?_; simp -dsimp -implicitDefEqProofs only [go_sem, ↓reduceIte, Nat.reduceEqDiff, Nat.reduceLT, Nat.reduceAdd, Nat.reduceMul, Nat.reduceLeDiff, Nat.le_refl, Int.natCast_zero, Int.toNat_natCast, Int.reduceToNat]; refine sCallM_one (hcn _) ?_; simp -dsimp -implicitDefEqProofs only [go_sem, ↓reduceIte, Nat.reduceEqDiff, Nat.reduceLT, Nat.reduceAdd, Nat.reduceMul, Nat.reduceLeDiff, Nat.le_refl, Int.natCast_zero, Int.toNat_natCast, Int.reduceToNat])
            clear hcn q1 g1 hb0 hb1 hb2 hk0
            repeat' (with_reducible refine And.intro ?_ ?_)
            all_goals try (first | omega | (refine ⟨?_, ?_⟩ <;> omega) | (exact rfl) | (simp; done))
            subst hr
            refine Later.lp [] [76, 77] [66] (fun x : Nat × List EvM => x.1 + x.2.length ≤ 60 ∧ x.2 ++ List.replicate x.1 ⟨4, 19, -1, 9⟩ = List.replicate (54 + d.1).toNat ⟨4, 19, -1, 9⟩)
              (fun x => [(7, eI x.1), (6, .ref 66 0 0 x.2.length)]) (fun x => [(66, .row 0 ⟨4, true⟩ true (x.2.map eEv))]) (fun x => x.1) ((54 + d.1).toNat, []) ⟨by simp; omega, by simp⟩ ?_ rfl (fun x hI => ?_)
            · dsimp only
              rw [show (((54 + d.1).toNat : Nat) : Int) = 54 + d.1 by omega]
              simp -dsimp -implicitDefEqProofs only [go_sem, ↓reduceIte, Nat.reduceEqDiff, Nat.reduceLT, Nat.reduceAdd, Nat.reduceMul, Nat.reduceLeDiff, Nat.le_refl, Int.natCast_zero, Int.toNat_natCast, Int.reduceToNat]
            · obtain ⟨k, list⟩ := x
              obtain ⟨hI, hI2⟩ := hI
              dsimp only at hI hI2 ⊢
              cases k with
              | zero =>
                have hk0 : decide ((0 : Int) > 0) = false := rfl
                simp -dsimp -implicitDefEqProofs only [pick_nil, pick_cons, look_nil, look_cons, dropB_nil, dropB_cons, inD_nil, inD_cons, inE_nil, inE_cons, or_t_l, or_f_l, Nat.reduceBEq, Nat.reduceDiv, Nat.reduceAdd, beq_self_eq_true, Bool.false_eq_true, Bool.or_false, ↓reduceIte, Nat.reduceEqDiff, List.cons_append, List.nil_append]
                simp -dsimp -implicitDefEqProofs only [go_sem, ↓reduceIte, Nat.reduceEqDiff, Nat.reduceLT, Nat.reduceAdd, Nat.reduceMul, Nat.reduceLeDiff, Nat.le_refl, Int.natCast_zero, Int.toNat_natCast, Int.reduceToNat, hk0]
                repeat' (with_reducible refine And.intro ?_ ?_)
                all_goals try (first | omega | (refine ⟨?_, ?_⟩ <;> omega) | (exact rfl) | (simp; done))
                rw [← hI2, List.replicate_zero, List.append_nil]
                all_goals try exact ⟨rfl, rfl⟩
              | succ k =>
                have hk0 : decide (((k + 1 : Nat) : Int) > 0) = true := decide_eq_true (by omega)
                simp -dsimp -implicitDefEqProofs only [pick_nil, pick_cons, look_nil, look_cons, dropB_nil, dropB_cons, inD_nil, inD_cons, inE_nil, inE_cons, or_t_l, or_f_l, Nat.reduceBEq, Nat.reduceDiv, Nat.reduceAdd, beq_self_eq_true, Bool.false_eq_true, Bool.or_false, ↓reduceIte, Nat.reduceEqDiff, List.cons_append, List.nil_append]
                simp -dsimp -implicitDefEqProofs only [go_sem, ↓reduceIte, Nat.reduceEqDiff, Nat.reduceLT, Nat.reduceAdd, Nat.reduceMul, Nat.reduceLeDiff, Nat.le_refl, Int.natCast_zero, Int.toNat_natCast, Int.reduceToNat, hk0]
                repeat' (with_reducible refine And.intro ?_ ?_)
                all_goals try (first | omega | (refine ⟨?_, ?_⟩ <;> omega) | (exact rfl) | (simp; done))
                refine ⟨(k, list ++ [⟨4, 19, -1, 9⟩]), ⟨by simp; omega, by rw [← hI2, List.replicate_succ]; simp⟩, Nat.lt_succ_self k, ?_⟩
                simp -dsimp -implicitDefEqProofs only [go_sem, ↓reduceIte, Nat.reduceEqDiff, Nat.reduceLT, Nat.reduceAdd, Nat.reduceMul, Nat.reduceLeDiff, Nat.le_refl, Int.natCast_zero, Int.toNat_natCast, Int.reduceToNat]
                all_goals (first | omega | (refine ⟨?_, ?_⟩ <;> omega) | (exact rfl) | (simp; done) | (simp [*]; done) | trace_state)
        · rw [if_pos (by simpa using hb1)] at hr
          simp -dsimp -implicitDefEqProofs only [go_sem, ↓reduceIte, Nat.reduceEqDiff, Nat.reduceLT, Nat.reduceAdd, Nat.reduceMul, Nat.reduceLeDiff, Nat.le_refl, Int.natCast_zero, Int.toNat_natCast, Int.reduceToNat, hb1]
          have o1 := g1.2.2.2
          generalize b.2 = s1 at *
          clear hcn q1 g1 hb0 hb1 hk0
          refine Later.lp [0] [55, 57, 62, 63] [8, 1000000000] (fun x : Nat × List EvM × Src => SrcOk x.2.2 ∧ x.2.1.length ≤ 61 ∧ 62 ≤ x.1 + x.2.1.length ∧ fillJ bs x.1 x.2.1 x.2.2 = res)
            (fun x => [(3, .ref 8 0 0 x.2.1.length)]) (fun x => [(8, .row 0 ⟨4, true⟩ true (x.2.1.map eEv)), (1000000000, srcB v bs x.2.2)]) (fun x => 61 - x.2.1.length) (62, out, s1) ⟨o1, by dsimp only; omega, by dsimp only; omega, hr⟩ ?_ rfl (fun x hI => ?_)
          · simp -dsimp -implicitDefEqProofs only [go_sem, ↓reduceIte, Nat.reduceEqDiff, Nat.reduceLT, Nat.reduceAdd, Nat.reduceMul, Nat.reduceLeDiff, Nat.le_refl, Int.natCast_zero, Int.toNat_natCast, Int.reduceToNat]
          · obtain ⟨k, out, s⟩ := x
            obtain ⟨q1, q2, q4, q5⟩ := hI
            dsimp only at q1 q2 q4 q5 ⊢
            clear o1 hr
            cases k with
            | zero => exact absurd q4 (by omega)
            | succ k =>
            rw [fillJ] at q5
            have f1 := nx_ok bs 2 q1
            have f2 := f1.2.2.1 (by omega)
            have hcn := fun v => c_l01Next v bs 2 s q1 hl
            generalize nx bs 2 s = d at *
            have o1 := f1.2.2.2
            simp -dsimp -implicitDefEqProofs only [pick_nil, pick_cons, look_nil, look_cons, dropB_nil, dropB_cons, inD_nil, inD_cons, inE_nil, inE_cons, or_t_l, or_f_l, Nat.reduceBEq, Nat.reduceDiv, Nat.reduceAdd, beq_self_eq_true, Bool.false_eq_true, Bool.or_false, ↓reduceIte, Nat.reduceEqDiff, List.cons_append, List.nil_append]
            simp -dsimp -implicitDefEqProofs only [go_sem, ↓reduceIte, Nat.reduceEqDiff, Nat.reduceLT, Nat.reduceAdd, Nat.reduceMul, Nat.reduceLeDiff, Nat.le_refl, Int.natCast_zero, Int.toNat_natCast, Int.reduceToNat]
            (refine sCallT_io [1000000000] ?_; simp -dsimp -implicitDefEqProofs only [go_sem, ↓reduceIte, Nat.reduceEqDiff, Nat.reduceLT, Nat.reduceAdd, Nat.reduceMul, Nat.reduceLeDiff, Nat.le_refl, Int.natCast_zero, Int.toNat_natCast, Int.reduceToNat]; refine sCallM_one (hcn _) ?_; simp -dsimp -implicitDefEqProofs only [go_sem, ↓reduceIte, Nat.reduceEqDiff, Nat.reduceLT, Nat.reduceAdd, Nat.reduceMul, Nat.reduceLeDiff, Nat.le_refl, Int.natCast_zero, Int.toNat_natCast, Int.reduceToNat])
            clear hcn
            rcases hlt : decide ((out.length : Int) < 60 + d.1) with _ | _
            · rw [if_neg (of_decide_eq_false hlt)] at q5
              subst q5
              simp -dsimp -implicitDefEqProofs only [go_sem, ↓reduceIte, Nat.reduceEqDiff, Nat.reduceLT, Nat.reduceAdd, Nat.reduceMul, Nat.reduceLeDiff, Nat.le_refl, Int.natCast_zero, Int.toNat_natCast, Int.reduceToNat, hlt]
              repeat' (with_reducible refine And.intro ?_ ?_)
              all_goals try (first | omega | (refine ⟨?_, ?_⟩ <;> omega) | (exact rfl) | (simp; done))
              all_goals try exact ⟨rfl, rfl⟩
            · have hlt2 := of_decide_eq_true hlt
              rw [if_pos hlt2] at q5
              simp -dsimp -implicitDefEqProofs only [go_sem, ↓reduceIte, Nat.reduceEqDiff, Nat.reduceLT, Nat.reduceAdd, Nat.reduceMul, Nat.reduceLeDiff, Nat.le_refl, Int.natCast_zero, Int.toNat_natCast, Int.reduceToNat, hlt]
              repeat' (with_reducible refine And.intro ?_ ?_)
              all_goals try (first | omega | (refine ⟨?_, ?_⟩ <;> omega) | (exact rfl) | (simp; done))
              refine ⟨(k, out ++ [⟨0, 0, 0, 0⟩], d.2), ⟨o1, by simp; omega, by simp; omega, q5⟩, by simp; omega, ?_⟩
              simp -dsimp -implicitDefEqProofs only [go_sem, ↓reduceIte, Nat.reduceEqDiff, Nat.reduceLT, Nat.reduceAdd, Nat.reduceMul, Nat.reduceLeDiff, Nat.le_refl, Int.natCast_zero, Int.toNat_natCast, Int.reduceToNat]
              all_goals (first | omega | (refine ⟨?_, ?_⟩ <;> omega) | (exact rfl) | (simp; done) | (simp [*]; done) | trace_state)
      · rw [if_pos (by simpa using hb0)] at hr
        have o0 := g1.2.2.2
        generalize b.2 = s0 at *
        clear hcn q1 g1 hk0
        have o1 := pk_ok bs [-1, 0, 5] o0
        have cA := fun v v2 d ys hy => c_l01Pick v v2 d bs [-1, 0, 5] ys s0 hy (by decide) (by decide) o0 hl
        generalize pk bs [-1, 0, 5] s0 = p1 at *
        have o2 := pk_ok bs [-1, 0, 20] o1
        have cB := fun v v2 d ys hy => c_l01Pick v v2 d bs [-1, 0, 20] ys p1.2 hy (by decide) (by decide) o1 hl
        generalize pk bs [-1, 0, 20] p1.2 = p2 at *
        have o3 := pk_ok bs [-1, 0, 10] o2
        have cC := fun v v2 d ys hy => c_l01Pick v v2 d bs [-1, 0, 10] ys p2.2 hy (by decide) (by decide) o2 hl
        generalize pk bs [-1, 0, 10] p2.2 = p3 at *
        have o4 := pk_ok bs [-1, 0, 10] o3
        have cD := fun v v2 d ys hy => c_l01Pick v v2 d bs [-1, 0, 10] ys p3.2 hy (by decide) (by decide) o3 hl
        generalize pk bs [-1, 0, 10] p3.2 = p4 at *
        subst hr
        simp -dsimp -implicitDefEqProofs only [go_sem, ↓reduceIte, Nat.reduceEqDiff, Nat.reduceLT, Nat.reduceAdd, Nat.reduceMul, Nat.reduceLeDiff, Nat.le_refl, Int.natCast_zero, Int.toNat_natCast, Int.reduceToNat, hb0]
        (refine sCallT_io [1000000000, 38] ?_; simp -dsimp -implicitDefEqProofs only [go_sem, ↓reduceIte, Nat.reduceEqDiff, Nat.reduceLT, Nat.reduceAdd, Nat.reduceMul, Nat.reduceLeDiff, Nat.le_refl, Int.natCast_zero, Int.toNat_natCast, Int.reduceToNat]; refine sCallM_one (cA _ _ _ _ rfl) ?_; simp -dsimp -implicitDefEqProofs only [go_sem, ↓reduceIte, Nat.reduceEqDiff, Nat.reduceLT, Nat.reduceAdd, Nat.reduceMul, Nat.reduceLeDiff, Nat.le_refl, Int.natCast_zero, Int.toNat_natCast, Int.reduceToNat])
        (refine sCallT_io [1000000000, 41] ?_; simp -dsimp -implicitDefEqProofs only [go_sem, ↓reduceIte, Nat.reduceEqDiff, Nat.reduceLT, Nat.reduceAdd, Nat.reduceMul, Nat.reduceLeDiff, Nat.le_refl, Int.natCast_zero, Int.toNat_natCast, Int.reduceToNat]; refine sCallM_one (cB _ _ _ _ rfl) ?_; simp -dsimp -implicitDefEqProofs only [go_sem, ↓reduceIte, Nat.reduceEqDiff, Nat.reduceLT, Nat.reduceAdd, Nat.reduceMul, Nat.reduceLeDiff, Nat.le_refl, Int.natCast_zero, Int.toNat_natCast, Int.reduceToNat])
        (refine sCallT_io [1000000000, 44] ?_; simp -dsimp -implicitDefEqProofs only [go_sem, ↓reduceIte, Nat.reduceEqDiff, Nat.reduceLT, Nat.reduceAdd, Nat.reduceMul, Nat.reduceLeDiff, Nat.le_refl, Int.natCast_zero, Int.toNat_natCast, Int.reduceToNat]; refine sCallM_one (cC _ _ _ _ rfl) ?_; simp -dsimp -implicitDefEqProofs only [go_sem, ↓reduceIte, Nat.reduceEqDiff, Nat.reduceLT, Nat.reduceAdd, Nat.reduceMul, Nat.reduceLeDiff, Nat.le_refl, Int.natCast_zero, Int.toNat_natCast, Int.reduceToNat])
        (refine sCallT_io [1000000000, 47] ?_; simp -dsimp -implicitDefEqProofs only [go_sem, ↓reduceIte, Nat.reduceEqDiff, Nat.reduceLT, Nat.reduceAdd, Nat.reduceMul, Nat.reduceLeDiff, Nat.le_refl, Int.natCast_zero, Int.toNat_natCast, Int.reduceToNat]; refine sCallM_one (cD _ _ _ _ rfl) ?_; simp -dsimp -implicitDefEqProofs only [go_sem, ↓reduceIte, Nat.reduceEqDiff, Nat.reduceLT, Nat.reduceAdd, Nat.reduceMul, Nat.reduceLeDiff, Nat.le_refl, Int.natCast_zero, Int.toNat_natCast, Int.reduceToNat])
        repeat' (with_reducible refine And.intro ?_ ?_)
        all_goals try (first | omega | (refine ⟨?_, ?_⟩ <;> omega) | (exact rfl) | (simp; done))
        all_goals try (rw [List.take_of_length_le (by simp)]; simp; done)
    | succ k =>
      have hk0 : decide (((k + 1 : Nat) : Int) > 0) = true := decide_eq_true (by omega)
      rw [drawK] at q3
      have g1 := nx_ok bs 5 q1
      have c1 := fun v => c_l01Next v bs 5 s q1 hl
      generalize nx bs 5 s = e1 at *
      have g2 := nx_ok bs 20 g1.2.2.2
      have c2 := fun v => c_l01Next v bs 20 e1.2 g1.2.2.2 hl
      generalize nx bs 20 e1.2 = e2 at *
      have g3 := nx_ok bs 10 g2.2.2.2
      have c3 := fun v => c_l01Next v bs 10 e2.2 g2.2.2.2 hl
      generalize nx bs 10 e2.2 = e3 at *
      have g4 := nx_ok bs 10 g3.2.2.2
      have c4 := fun v => c_l01Next v bs 10 e3.2 g3.2.2.2 hl
      generalize nx bs 10 e3.2 = e4 at *
      have o3 := g3.2.2.2
      have o4 := g4.2.2.2
      clear g1 g2 g3 g4
      simp -dsimp -implicitDefEqProofs only [pick_nil, pick_cons, look_nil, look_cons, dropB_nil, dropB_cons, inD_nil, inD_cons, inE_nil, inE_cons, or_t_l, or_f_l, Nat.reduceBEq, Nat.reduceDiv, Nat.reduceAdd, beq_self_eq_true, Bool.false_eq_true, Bool.or_false, ↓reduceIte, Nat.reduceEqDiff, List.cons_append, List.nil_append]
      simp -dsimp -implicitDefEqProofs only [go_sem, ↓reduceIte, Nat.reduceEqDiff, Nat.reduceLT, Nat.reduceAdd, Nat.reduceMul, Nat.reduceLeDiff, Nat.le_refl, Int.natCast_zero, Int.toNat_natCast, Int.reduceToNat, hk0]
      (refine sCallT_io [1000000000] ?_; simp -dsimp -implicitDefEqProofs only [go_sem, ↓reduceIte, Nat.reduceEqDiff, Nat.reduceLT, Nat.reduceAdd, Nat.reduceMul, Nat.reduceLeDiff, Nat.le_refl, Int.natCast_zero, Int.toNat_natCast, Int.reduceToNat]; refine sCallM_one (c1 _) ?_; simp -dsimp -implicitDefEqProofs only [go_sem, ↓reduceIte, Nat.reduceEqDiff, Nat.reduceLT, Nat.reduceAdd, Nat.reduceMul, Nat.reduceLeDiff, Nat.le_refl, Int.natCast_zero, Int.toNat_natCast, Int.reduceToNat])
      (refine sCallT_io [1000000000] ?_; simp -dsimp -implicitDefEqProofs only [go_sem, ↓reduceIte, Nat.reduceEqDiff, Nat.reduceLT, Nat.reduceAdd, Nat.reduceMul, Nat.reduceLeDiff, Nat.le_refl, Int.natCast_zero, Int.toNat_natCast, Int.reduceToNat]; refine sCallM_one (c2 _) ?_; simp -dsimp -implicitDefEqProofs only [go_sem, ↓reduceIte, Nat.reduceEqDiff, Nat.reduceLT, Nat.reduceAdd, Nat.reduceMul, Nat.reduceLeDiff, Nat.le_refl, Int.natCast_zero, Int.toNat_natCast, Int.reduceToNat])
      (refine sCallT_io [1000000000] ?_; simp -dsimp -implicitDefEqProofs only [go_sem, ↓reduceIte, Nat.reduceEqDiff, Nat.reduceLT, Nat.reduceAdd, Nat.reduceMul, Nat.reduceLeDiff, Nat.le_refl, Int.natCast_zero, Int.toNat_natCast, Int.reduceToNat]; refine sCallM_one (c3 _) ?_; simp -dsimp -implicitDefEqProofs only [go_sem, ↓reduceIte, Nat.reduceEqDiff, Nat.reduceLT, Nat.reduceAdd, Nat.reduceMul, Nat.reduceLeDiff, Nat.le_refl, Int.natCast_zero, Int.toNat_natCast, Int.reduceToNat])
      rcases hz : (e1.1 == 0) with _ | _
      · rw [if_neg (by simpa using hz)] at q3
        simp -dsimp -implicitDefEqProofs only [go_sem, ↓reduceIte, Nat.reduceEqDiff, Nat.reduceLT, Nat.reduceAdd, Nat.reduceMul, Nat.reduceLeDiff, Nat.le_refl, Int.natCast_zero, Int.toNat_natCast, Int.reduceToNat, hz]
        repeat' (with_reducible refine And.intro ?_ ?_)
        all_goals try (first | omega | (refine ⟨?_, ?_⟩ <;> omega) | (exact rfl) | (simp; done))
        refine ⟨(k, out ++ [⟨e1.1, e2.1, -1, e3.1⟩], e3.2), ⟨o3, by simp; omega, q3⟩, Nat.lt_succ_self k, ?_⟩
        simp -dsimp -implicitDefEqProofs only [go_sem, ↓reduceIte, Nat.reduceEqDiff, Nat.reduceLT, Nat.reduceAdd, Nat.reduceMul, Nat.reduceLeDiff, Nat.le_refl, Int.natCast_zero, Int.toNat_natCast, Int.reduceToNat]
        all_goals (first | omega | (refine ⟨?_, ?_⟩ <;> omega) | (exact rfl) | (simp; done) | (simp [*]; done) | trace_state)
      · rw [if_pos (by simpa using hz)] at q3
        simp -dsimp -implicitDefEqProofs only [go_sem, ↓reduceIte, Nat.reduceEqDiff, Nat.reduceLT, Nat.reduceAdd, Nat.reduceMul, Nat.reduceLeDiff, Nat.le_refl, Int.natCast_zero, Int.toNat_natCast, Int.reduceToNat, hz]
        (refine sCallT_io [1000000000] ?_; simp -dsimp -implicitDefEqProofs only [go_sem, ↓reduceIte, Nat.reduceEqDiff, Nat.reduceLT, Nat.reduceAdd, Nat.reduceMul, Nat.reduceLeDiff, Nat.le_refl, Int.natCast_zero, Int.toNat_natCast, Int.reduceToNat]; refine sCallM_one (c4 _) ?_; simp -dsimp -implicitDefEqProofs only [go_sem, ↓reduceIte, Nat.reduceEqDiff, Nat.reduceLT, Nat.reduceAdd, Nat.reduceMul, Nat.reduceLeDiff, Nat.le_refl, Int.natCast_zero, Int.toNat_natCast, Int.reduceToNat])
        repeat' (with_reducible refine And.intro ?_ ?_)
        all_goals try (first | omega | (refine ⟨?_, ?_⟩ <;> omega) | (exact rfl) | (simp; done))
        refine ⟨(k, out ++ [⟨e1.1, e2.1, e4.1, e3.1⟩], e4.2), ⟨o4, by simp; omega, q3⟩, Nat.lt_succ_self k, ?_⟩
        simp -dsimp -implicitDefEqProofs only [go_sem, ↓reduceIte, Nat.reduceEqDiff, Nat.reduceLT, Nat.reduceAdd, Nat.reduceMul, Nat.reduceLeDiff, Nat.le_refl, Int.natCast_zero, Int.toNat_natCast, Int.reduceToNat]
        all_goals (first | omega | (refine ⟨?_, ?_⟩ <;> omega) | (exact rfl) | (simp; done) | (simp [*]; done) | trace_state)
def dmgW (i : Int) : List UInt8 := ([[48], [35], [46], [47], [32], [97], [45], [10]] : List (List UInt8)).getD i.toNat []
theorem dmgW_len (i : Int) : (dmgW i).length ≤ 1 := by
  unfold dmgW
  rcases Nat.lt_or_ge i.toNat 8 with h | h
  · match i.toNat, h with
    | 0, _ => decide
    | 1, _ => decide
    | 2, _ => decide
    | 3, _ => decide
    | 4, _ => decide
    | 5, _ => decide
    | 6, _ => decide
    | 7, _ => decide
  · rw [List.getD_eq_getElem?_getD, List.getElem?_eq_none (by simpa using h)]; simp
def dmg (bs : List UInt8) (t : List UInt8) (a : Int × Src) (b : Int × Src) : List UInt8 × Src :=
  if b.1 = 0 then (t.take a.1.toNat, b.2)
  else if b.1 = 1 then (t.take a.1.toNat ++ dmgW (nx bs 8 b.2).1 ++ t.drop a.1.toNat, (nx bs 8 b.2).2)
  else if b.1 = 2 ∧ a.1 < t.length then (t.take a.1.toNat ++ t.drop (a.1.toNat + 1), b.2)
  else (t, b.2)
def damage (bs : List UInt8) (t : List UInt8) (s : Src) : List UInt8 × Src := dmg bs t (nx bs ((t.length : Int) + 1) s) (nx bs 8 (nx bs ((t.length : Int) + 1) s).2)
theorem nx_in (bs t : List UInt8) {s : Src} (h : SrcOk s) : 0 ≤ (nx bs ((t.length : Int) + 1) s).1 ∧ (nx bs ((t.length : Int) + 1) s).1 ≤ t.length := by
  have h1 := nx_ok bs ((t.length : Int) + 1) h
  refine ⟨h1.1, ?_⟩
  by_cases hz : (t.length : Int) + 1 ≤ 1
  · rw [h1.2.1 hz]; omega
  · have := h1.2.2.1 (by omega); omega
theorem damage_ok (bs t : List UInt8) {s : Src} (h : SrcOk s) : SrcOk (damage bs t s).2 ∧ (damage bs t s).1.length ≤ t.length + 1 := by
  have h1 := nx_in bs t h
  have o1 := (nx_ok bs ((t.length : Int) + 1) h).2.2.2
  unfold damage
  generalize nx bs ((t.length : Int) + 1) s = a at *
  have o2 := (nx_ok bs 8 o1).2.2.2
  generalize nx bs 8 a.2 = b at *
  have o3 := (nx_ok bs 8 o2).2.2.2
  have hw := dmgW_len (nx bs 8 b.2).1
  unfold dmg
  split
  · exact ⟨o2, by simp; omega⟩
  · split
    · exact ⟨o3, by simp; omega⟩
    · split
      · exact ⟨o2, by simp; omega⟩
      · exact ⟨o2, by dsimp only; omega⟩
set_option maxHeartbeats 8000000 in
theorem c_l01Damage (v : Nat) (bs t : List UInt8) (s : Src) (h : SrcOk s) (hl : bs.length ≤ 4096) (ht : t.length ≤ 1000000) :
    FnM Tryd.prog 105 [srcB v bs s] [.ptr 1000000000 v 0 0, eS t] (fun x io => x = eS (damage bs t s).1 ∧ io = [srcB v bs (damage bs t s).2]) := by
  refine FnM.of_vc 48 [.tmp 4] Tryd.func105 rfl rfl rfl rfl rfl (of_decide_eq_true rfl) ?_
  obtain ⟨res, hr⟩ : ∃ res, damage bs t s = res := ⟨_, rfl⟩
  rw [hr]
  unfold damage dmg at hr
  have h1 := nx_ok bs ((t.length : Int) + 1) h
  have c1 := fun v => c_l01Next v bs ((t.length : Int) + 1) s h hl
  have hk : 0 ≤ (nx bs ((t.length : Int) + 1) s).1 ∧ (nx bs ((t.length : Int) + 1) s).1 ≤ t.length := by
    refine ⟨h1.1, ?_⟩
    by_cases hz : (t.length : Int) + 1 ≤ 1
    · rw [h1.2.1 hz]; omega
    · have := h1.2.2.1 (by omega); omega
  have o1 := h1.2.2.2
  clear h1
  generalize nx bs ((t.length : Int) + 1) s = a at *
  have h2 := nx_ok bs 8 o1
  have c2 := fun v => c_l01Next v bs 8 a.2 o1 hl
  generalize nx bs 8 a.2 = b at *
  have o2 := h2.2.2.2
  clear h2
  obtain ⟨n, hn⟩ : ∃ n : Nat, a.1 = n := ⟨a.1.toNat, by omega⟩
  rw [hn] at hk c1 hr
  rw [Int.toNat_natCast] at hr
  have hk1 : n ≤ t.length := by omega
  simp -dsimp -implicitDefEqProofs only [go_sem, ↓reduceIte, Nat.reduceEqDiff, Nat.reduceLT, Nat.reduceAdd, Nat.reduceMul, Nat.reduceLeDiff, Nat.le_refl, Int.natCast_zero, Int.toNat_natCast, Int.reduceToNat]
  repeat' (with_reducible refine And.intro ?_ ?_)
  all_goals try (first | omega | (refine ⟨?_, ?_⟩ <;> omega) | (exact rfl) | (simp; done))
  (refine sCallT_io [1000000000] ?_; simp -dsimp -implicitDefEqProofs only [go_sem, ↓reduceIte, Nat.reduceEqDiff, Nat.reduceLT, Nat.reduceAdd, Nat.reduceMul, Nat.reduceLeDiff, Nat.le_refl, Int.natCast_zero, Int.toNat_natCast, Int.reduceToNat]; refine sCallM_one (c1 _) ?_; simp -dsimp -implicitDefEqProofs only [go_sem, ↓reduceIte, Nat.reduceEqDiff, Nat.reduceLT, Nat.reduceAdd, Nat.reduceMul, Nat.reduceLeDiff, Nat.le_refl, Int.natCast_zero, Int.toNat_natCast, Int.reduceToNat])
  (refine sCallT_io [1000000000] ?_; simp -dsimp -implicitDefEqProofs only [go_sem, ↓reduceIte, Nat.reduceEqDiff, Nat.reduceLT, Nat.reduceAdd, Nat.reduceMul, Nat.reduceLeDiff, Nat.le_refl, Int.natCast_zero, Int.toNat_natCast, Int.reduceToNat]; refine sCallM_one (c2 _) ?_; simp -dsimp -implicitDefEqProofs only [go_sem, ↓reduceIte, Nat.reduceEqDiff, Nat.reduceLT, Nat.reduceAdd, Nat.reduceMul, Nat.reduceLeDiff, Nat.le_refl, Int.natCast_zero, Int.toNat_natCast, Int.reduceToNat])
  rcases hb0 : (b.1 == 0) with _ | _
  · rw [if_neg (by simpa using hb0)] at hr
    simp -dsimp -implicitDefEqProofs only [go_sem, ↓reduceIte, Nat.reduceEqDiff, Nat.reduceLT, Nat.reduceAdd, Nat.reduceMul, Nat.reduceLeDiff, Nat.le_refl, Int.natCast_zero, Int.toNat_natCast, Int.reduceToNat, hb0]
    rcases hb1 : (b.1 == 1) with _ | _
    · rw [if_neg (by simpa using hb1)] at hr
      simp -dsimp -implicitDefEqProofs only [go_sem, ↓reduceIte, Nat.reduceEqDiff, Nat.reduceLT, Nat.reduceAdd, Nat.reduceMul, Nat.reduceLeDiff, Nat.le_refl, Int.natCast_zero, Int.toNat_natCast, Int.reduceToNat, hb1]
      rcases hb2 : (b.1 == 2) with _ | _
      · rw [if_neg (by have : b.1 ≠ 2 := by simpa using hb2
                       exact fun h => this h.1)] at hr
        subst hr
        simp -dsimp -implicitDefEqProofs only [go_sem, ↓reduceIte, Nat.reduceEqDiff, Nat.reduceLT, Nat.reduceAdd, Nat.reduceMul, Nat.reduceLeDiff, Nat.le_refl, Int.natCast_zero, Int.toNat_natCast, Int.reduceToNat, hb2]
        all_goals try exact ⟨rfl, rfl⟩
      · rcases hlt : decide ((n : Int) < (t.length : Int)) with _ | _
        · rw [if_neg (fun h => of_decide_eq_false hlt h.2)] at hr
          subst hr
          simp -dsimp -implicitDefEqProofs only [go_sem, ↓reduceIte, Nat.reduceEqDiff, Nat.reduceLT, Nat.reduceAdd, Nat.reduceMul, Nat.reduceLeDiff, Nat.le_refl, Int.natCast_zero, Int.toNat_natCast, Int.reduceToNat, hb2, hlt]
          all_goals try exact ⟨rfl, rfl⟩
        · have hlt2 := of_decide_eq_true hlt
          rw [if_pos ⟨by simpa using hb2, hlt2⟩] at hr
          subst hr
          have e1 : ((n : Int) + 1).toNat = n + 1 := by omega
          simp -dsimp -implicitDefEqProofs only [go_sem, ↓reduceIte, Nat.reduceEqDiff, Nat.reduceLT, Nat.reduceAdd, Nat.reduceMul, Nat.reduceLeDiff, Nat.le_refl, Int.natCast_zero, Int.toNat_natCast, Int.reduceToNat, hb2, hlt]
          refine Later.draw mixed rfl ?_
          simp -dsimp -implicitDefEqProofs only [go_sem, ↓reduceIte, Nat.reduceEqDiff, Nat.reduceLT, Nat.reduceAdd, Nat.reduceMul, Nat.reduceLeDiff, Nat.le_refl, Int.natCast_zero, Int.toNat_natCast, Int.reduceToNat, e1]
          repeat' (with_reducible refine And.intro ?_ ?_)
          all_goals try first | (first | omega | (refine ⟨?_, ?_⟩ <;> omega) | (exact rfl) | (simp; done)) | (simp; omega)
          all_goals try first | exact ⟨by first | rfl | simp, rfl⟩ | (exact rfl) | (simp; done)
    · rw [if_pos (by simpa using hb1)] at hr
      simp -dsimp -implicitDefEqProofs only [go_sem, ↓reduceIte, Nat.reduceEqDiff, Nat.reduceLT, Nat.reduceAdd, Nat.reduceMul, Nat.reduceLeDiff, Nat.le_refl, Int.natCast_zero, Int.toNat_natCast, Int.reduceToNat, hb1]
      have h3 := nx_ok bs 8 o2
      have c3 := fun v => c_l01Next v bs 8 b.2 o2 hl
      generalize nx bs 8 b.2 = d at *
      have o3 := h3.2.2.2
      have d1 := h3.1
      have d2 := h3.2.2.1 (by omega)
      clear h3
      refine Later.draw mixed rfl ?_
      simp -dsimp -implicitDefEqProofs only [go_sem, ↓reduceIte, Nat.reduceEqDiff, Nat.reduceLT, Nat.reduceAdd, Nat.reduceMul, Nat.reduceLeDiff, Nat.le_refl, Int.natCast_zero, Int.toNat_natCast, Int.reduceToNat]
      repeat' (with_reducible refine And.intro ?_ ?_)
      all_goals try (first | omega | (refine ⟨?_, ?_⟩ <;> omega) | (exact rfl) | (simp; done))
      (refine sCallX_io [1000000000] rfl ?_; simp -dsimp -implicitDefEqProofs only [go_sem, ↓reduceIte, Nat.reduceEqDiff, Nat.reduceLT, Nat.reduceAdd, Nat.reduceMul, Nat.reduceLeDiff, Nat.le_refl, Int.natCast_zero, Int.toNat_natCast, Int.reduceToNat]; refine sCallMX_one (c3 _) ?_; simp -dsimp -implicitDefEqProofs only [go_sem, ↓reduceIte, Nat.reduceEqDiff, Nat.reduceLT, Nat.reduceAdd, Nat.reduceMul, Nat.reduceLeDiff, Nat.le_refl, Int.natCast_zero, Int.toNat_natCast, Int.reduceToNat])
      repeat' (with_reducible refine And.intro ?_ ?_)
      all_goals try (first | omega | (refine ⟨?_, ?_⟩ <;> omega) | (exact rfl) | (simp; done))
      subst hr
      have hwl := dmgW_len d.1
      have hw : ∀ i, i < 8 → ([AV.val (.string ⟨#[48]⟩), AV.val (.string ⟨#[35]⟩), AV.val (.string ⟨#[46]⟩), AV.val (.string ⟨#[47]⟩), AV.val (.string ⟨#[32]⟩), AV.val (.string ⟨#[97]⟩), AV.val (.string ⟨#[45]⟩), AV.val (.string ⟨#[10]⟩)] : List AV)[i]? = some (eS (([[48], [35], [46], [47], [32], [97], [45], [10]] : List (List UInt8)).getD i [])) := fun i hi => by
        match i, hi with
        | 0, _ => rfl
        | 1, _ => rfl
        | 2, _ => rfl
        | 3, _ => rfl
        | 4, _ => rfl
        | 5, _ => rfl
        | 6, _ => rfl
        | 7, _ => rfl
      have w2 := hw d.1.toNat (by omega)
      clear hw
      change _ = some (eS (dmgW d.1)) at w2
      generalize dmgW d.1 = w at *
      simp -dsimp -implicitDefEqProofs only [go_sem, ↓reduceIte, Nat.reduceEqDiff, Nat.reduceLT, Nat.reduceAdd, Nat.reduceMul, Nat.reduceLeDiff, Nat.le_refl, Int.natCast_zero, Int.toNat_natCast, Int.reduceToNat, w2]
      repeat' (with_reducible refine And.intro ?_ ?_)
      all_goals try first | (first | omega | (refine ⟨?_, ?_⟩ <;> omega) | (exact rfl) | (simp; done)) | (simp; omega)
      all_goals try first | exact ⟨by first | rfl | simp, rfl⟩ | (exact rfl) | (simp; done)
  · rw [if_pos (by simpa using hb0)] at hr
    subst hr
    simp -dsimp -implicitDefEqProofs only [go_sem, ↓reduceIte, Nat.reduceEqDiff, Nat.reduceLT, Nat.reduceAdd, Nat.reduceMul, Nat.reduceLeDiff, Nat.le_refl, Int.natCast_zero, Int.toNat_natCast, Int.reduceToNat, hb0]
    repeat' (with_reducible refine And.intro ?_ ?_)
    all_goals try first | (first | omega | (refine ⟨?_, ?_⟩ <;> omega) | (exact rfl) | (simp; done)) | (simp; omega)
theorem jText_len (es : List EvM) : (jText es).1.length ≤ 1000 := by
  unfold jText
  split
  · split
    · simp
    · split
      · simp
      · dsimp only; omega
  · simp
def txtJ (bs t : List UInt8) (b : Int × Src) : List UInt8 × Src :=
  if b.1 = 0 then damage bs t b.2
  else if b.1 = 1 then (t.take (nx bs ((t.length : Int) + 1) b.2).1.toNat, (nx bs ((t.length : Int) + 1) b.2).2)
  else if b.1 = 2 then (if (nx bs 6 b.2).1 = 0 then (t ++ List.replicate 1000 0, (nx bs 6 b.2).2) else (t, (nx bs 6 b.2).2))
  else (t, b.2)
def textJ (bs : List UInt8) (s : Src) : List UInt8 × Src := txtJ bs (jText (drawJ bs s).1).1 (nx bs 8 (drawJ bs s).2)
theorem textJ_ok (bs : List UInt8) {s : Src} (h : SrcOk s) : SrcOk (textJ bs s).2 ∧ (textJ bs s).1.length ≤ 2001 := by
  have o1 := (drawJ_ok bs h).1
  have hl := jText_len (drawJ bs s).1
  unfold textJ
  generalize (jText (drawJ bs s).1).1 = t at *
  generalize (drawJ bs s).2 = s1 at *
  have o2 := (nx_ok bs 8 o1).2.2.2
  generalize nx bs 8 s1 = b at *
  unfold txtJ
  split
  · have := damage_ok bs t o2
    exact ⟨this.1, by omega⟩
  · split
    · exact ⟨(nx_ok bs _ o2).2.2.2, by simp; omega⟩
    · split
      · have o3 := (nx_ok bs 6 o2).2.2.2
        split
        · exact ⟨o3, by simp; omega⟩
        · exact ⟨o3, by dsimp only; omega⟩
      · exact ⟨o2, by dsimp only; omega⟩
theorem zeros : List.take 1000 (List.replicate 1000 (AV.val (.int .u8 0))) = (List.replicate 1000 (0 : UInt8)).map fun b => .val (.int .u8 b.toNat) := by
  rw [List.take_of_length_le (by simp), List.map_replicate]; rfl
set_option maxHeartbeats 8000000 in
theorem c_l31DrawText (v : Nat) (bs : List UInt8) (s : Src) (h : SrcOk s) (hl : bs.length ≤ 4096) :
    FnM Tryd.prog 68 [srcB v bs s] [.ptr 1000000000 v 0 0] (fun x io => x = eS (textJ bs s).1 ∧ io = [srcB v bs (textJ bs s).2]) := by
  refine FnM.of_vc 37 [.tmp 2] Tryd.func68 rfl rfl rfl rfl rfl (of_decide_eq_true rfl) ?_
  obtain ⟨res, hr⟩ : ∃ res, textJ bs s = res := ⟨_, rfl⟩
  rw [hr]
  unfold textJ txtJ at hr
  obtain ⟨o1, hel⟩ := drawJ_ok bs h
  have c0 := fun v => c_l31Draw v bs s h hl
  generalize drawJ bs s = q at *
  obtain ⟨es, s1⟩ := q
  dsimp only at o1 hel c0 hr
  have hj := c_sJournalText es (by omega)
  have hjl := jText_len es
  generalize jText es = q at *
  obtain ⟨t, bad⟩ := q
  dsimp only at hjl hj hr
  simp -dsimp -implicitDefEqProofs only [go_sem, ↓reduceIte, Nat.reduceEqDiff, Nat.reduceLT, Nat.reduceAdd, Nat.reduceMul, Nat.reduceLeDiff, Nat.le_refl, Int.natCast_zero, Int.toNat_natCast, Int.reduceToNat]
  repeat' (with_reducible refine And.intro ?_ ?_)
  all_goals try (first | omega | (refine ⟨?_, ?_⟩ <;> omega) | (exact rfl) | (simp; done))
  (refine sCallT_io [1000000000] ?_; simp -dsimp -implicitDefEqProofs only [go_sem, ↓reduceIte, Nat.reduceEqDiff, Nat.reduceLT, Nat.reduceAdd, Nat.reduceMul, Nat.reduceLeDiff, Nat.le_refl, Int.natCast_zero, Int.toNat_natCast, Int.reduceToNat]; refine sCallM_one (c0 _) ?_; simp -dsimp -implicitDefEqProofs only [go_sem, ↓reduceIte, Nat.reduceEqDiff, Nat.reduceLT, Nat.reduceAdd, Nat.reduceMul, Nat.reduceLeDiff, Nat.le_refl, Int.natCast_zero, Int.toNat_natCast, Int.reduceToNat])
  refine sCallT_one hj ?_
  simp -dsimp -implicitDefEqProofs only [go_sem, ↓reduceIte, Nat.reduceEqDiff, Nat.reduceLT, Nat.reduceAdd, Nat.reduceMul, Nat.reduceLeDiff, Nat.le_refl, Int.natCast_zero, Int.toNat_natCast, Int.reduceToNat]
  have h2 := nx_ok bs 8 o1
  have c2 := fun v => c_l01Next v bs 8 s1 o1 hl
  generalize nx bs 8 s1 = b at *
  have o2 := h2.2.2.2
  clear h2 h
  (refine sCallT_io [1000000000] ?_; simp -dsimp -implicitDefEqProofs only [go_sem, ↓reduceIte, Nat.reduceEqDiff, Nat.reduceLT, Nat.reduceAdd, Nat.reduceMul, Nat.reduceLeDiff, Nat.le_refl, Int.natCast_zero, Int.toNat_natCast, Int.reduceToNat]; refine sCallM_one (c2 _) ?_; simp -dsimp -implicitDefEqProofs only [go_sem, ↓reduceIte, Nat.reduceEqDiff, Nat.reduceLT, Nat.reduceAdd, Nat.reduceMul, Nat.reduceLeDiff, Nat.le_refl, Int.natCast_zero, Int.toNat_natCast, Int.reduceToNat])
  rcases hb0 : (b.1 == 0) with _ | _
  · rw [if_neg (by simpa using hb0)] at hr
    simp -dsimp -implicitDefEqProofs only [go_sem, ↓reduceIte, Nat.reduceEqDiff, Nat.reduceLT, Nat.reduceAdd, Nat.reduceMul, Nat.reduceLeDiff, Nat.le_refl, Int.natCast_zero, Int.toNat_natCast, Int.reduceToNat, hb0]
    rcases hb1 : (b.1 == 1) with _ | _
    · rw [if_neg (by simpa using hb1)] at hr
      simp -dsimp -implicitDefEqProofs only [go_sem, ↓reduceIte, Nat.reduceEqDiff, Nat.reduceLT, Nat.reduceAdd, Nat.reduceMul, Nat.reduceLeDiff, Nat.le_refl, Int.natCast_zero, Int.toNat_natCast, Int.reduceToNat, hb1]
      rcases hb2 : (b.1 == 2) with _ | _
      · rw [if_neg (by simpa using hb2)] at hr
        subst hr
        simp -dsimp -implicitDefEqProofs only [go_sem, ↓reduceIte, Nat.reduceEqDiff, Nat.reduceLT, Nat.reduceAdd, Nat.reduceMul, Nat.reduceLeDiff, Nat.le_refl, Int.natCast_zero, Int.toNat_natCast, Int.reduceToNat, hb2]
        all_goals try exact ⟨rfl, rfl⟩
      · rw [if_pos (by simpa using hb2)] at hr
        have h3 := nx_ok bs 6 o2
        have c3 := fun v => c_l01Next v bs 6 b.2 o2 hl
        generalize nx bs 6 b.2 = d at *
        have o3 := h3.2.2.2
        clear h3
        simp -dsimp -implicitDefEqProofs only [go_sem, ↓reduceIte, Nat.reduceEqDiff, Nat.reduceLT, Nat.reduceAdd, Nat.reduceMul, Nat.reduceLeDiff, Nat.le_refl, Int.natCast_zero, Int.toNat_natCast, Int.reduceToNat, hb2]
        (refine sCallT_io [1000000000] ?_; simp -dsimp -implicitDefEqProofs only [go_sem, ↓reduceIte, Nat.reduceEqDiff, Nat.reduceLT, Nat.reduceAdd, Nat.reduceMul, Nat.reduceLeDiff, Nat.le_refl, Int.natCast_zero, Int.toNat_natCast, Int.reduceToNat]; refine sCallM_one (c3 _) ?_; simp -dsimp -implicitDefEqProofs only [go_sem, ↓reduceIte, Nat.reduceEqDiff, Nat.reduceLT, Nat.reduceAdd, Nat.reduceMul, Nat.reduceLeDiff, Nat.le_refl, Int.natCast_zero, Int.toNat_natCast, Int.reduceToNat])
        rcases hd : (d.1 == 0) with _ | _
        · rw [if_neg (by simpa using hd)] at hr
          subst hr
          simp -dsimp -implicitDefEqProofs only [go_sem, ↓reduceIte, Nat.reduceEqDiff, Nat.reduceLT, Nat.reduceAdd, Nat.reduceMul, Nat.reduceLeDiff, Nat.le_refl, Int.natCast_zero, Int.toNat_natCast, Int.reduceToNat, hd]
          all_goals try exact ⟨rfl, rfl⟩
        · rw [if_pos (by simpa using hd)] at hr
          simp -dsimp -implicitDefEqProofs only [go_sem, ↓reduceIte, Nat.reduceEqDiff, Nat.reduceLT, Nat.reduceAdd, Nat.reduceMul, Nat.reduceLeDiff, Nat.le_refl, Int.natCast_zero, Int.toNat_natCast, Int.reduceToNat, hd]
          repeat' (with_reducible refine And.intro ?_ ?_)
          all_goals try first | (first | omega | (refine ⟨?_, ?_⟩ <;> omega) | (exact rfl) | (simp; done)) | (simp; omega)
          rw [zeros, sBytesL_map]
          simp only [List.reverse_nil, List.nil_append]
          have hz1 : (List.replicate 1000 (0 : UInt8)).length = 1000 := by simp
          generalize List.replicate 1000 (0 : UInt8) = z at *
          subst hr
          simp -dsimp -implicitDefEqProofs only [go_sem, ↓reduceIte, Nat.reduceEqDiff, Nat.reduceLT, Nat.reduceAdd, Nat.reduceMul, Nat.reduceLeDiff, Nat.le_refl, Int.natCast_zero, Int.toNat_natCast, Int.reduceToNat]
          repeat' (with_reducible refine And.intro ?_ ?_)
          all_goals try first | (first | omega | (refine ⟨?_, ?_⟩ <;> omega) | (exact rfl) | (simp; done)) | (simp; omega)
    · rw [if_pos (by simpa using hb1)] at hr
      have h3 := nx_ok bs ((t.length : Int) + 1) o2
      have c3 := fun v => c_l01Next v bs ((t.length : Int) + 1) b.2 o2 hl
      have hk := nx_in bs t o2
      have o3 := h3.2.2.2
      clear h3
      generalize nx bs ((t.length : Int) + 1) b.2 = d at *
      obtain ⟨n, hn⟩ : ∃ n : Nat, d.1 = n := ⟨d.1.toNat, by omega⟩
      rw [hn] at hk c3 hr
      rw [Int.toNat_natCast] at hr
      subst hr
      have hk1 : n ≤ t.length := by omega
      simp -dsimp -implicitDefEqProofs only [go_sem, ↓reduceIte, Nat.reduceEqDiff, Nat.reduceLT, Nat.reduceAdd, Nat.reduceMul, Nat.reduceLeDiff, Nat.le_refl, Int.natCast_zero, Int.toNat_natCast, Int.reduceToNat, hb1]
      repeat' (with_reducible refine And.intro ?_ ?_)
      all_goals try (first | omega | (refine ⟨?_, ?_⟩ <;> omega) | (exact rfl) | (simp; done))
      (refine sCallT_io [1000000000] ?_; simp -dsimp -implicitDefEqProofs only [go_sem, ↓reduceIte, Nat.reduceEqDiff, Nat.reduceLT, Nat.reduceAdd, Nat.reduceMul, Nat.reduceLeDiff, Nat.le_refl, Int.natCast_zero, Int.toNat_natCast, Int.reduceToNat]; refine sCallM_one (c3 _) ?_; simp -dsimp -implicitDefEqProofs only [go_sem, ↓reduceIte, Nat.reduceEqDiff, Nat.reduceLT, Nat.reduceAdd, Nat.reduceMul, Nat.reduceLeDiff, Nat.le_refl, Int.natCast_zero, Int.toNat_natCast, Int.reduceToNat])
      repeat' (with_reducible refine And.intro ?_ ?_)
      all_goals try first | (first | omega | (refine ⟨?_, ?_⟩ <;> omega) | (exact rfl) | (simp; done)) | (simp; omega)
  · rw [if_pos (by simpa using hb0)] at hr
    have c4 := fun v => c_l01Damage v bs t b.2 o2 hl (by omega)
    subst hr
    simp -dsimp -implicitDefEqProofs only [go_sem, ↓reduceIte, Nat.reduceEqDiff, Nat.reduceLT, Nat.reduceAdd, Nat.reduceMul, Nat.reduceLeDiff, Nat.le_refl, Int.natCast_zero, Int.toNat_natCast, Int.reduceToNat, hb0]
    (refine sCallT_io [1000000000] ?_; simp -dsimp -implicitDefEqProofs only [go_sem, ↓reduceIte, Nat.reduceEqDiff, Nat.reduceLT, Nat.reduceAdd, Nat.reduceMul, Nat.reduceLeDiff, Nat.le_refl, Int.natCast_zero, Int.toNat_natCast, Int.reduceToNat]; refine sCallM_one (c4 _) ?_; simp -dsimp -implicitDefEqProofs only [go_sem, ↓reduceIte, Nat.reduceEqDiff, Nat.reduceLT, Nat.reduceAdd, Nat.reduceMul, Nat.reduceLeDiff, Nat.le_refl, Int.natCast_zero, Int.toNat_natCast, Int.reduceToNat])
    all_goals try exact ⟨rfl, rfl⟩
end Go.Vc
