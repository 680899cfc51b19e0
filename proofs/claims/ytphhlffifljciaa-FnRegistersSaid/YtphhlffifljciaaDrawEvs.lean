/-
  Contracts: lists of events that are drawn.
-/
import Derived.Test.YtphhlffifljciaaDrawEv
set_option linter.unusedVariables false
set_option linter.unusedSimpArgs false
set_option linter.unnecessarySimpa false
namespace Go.Vc
open Go.Proofs
set_option maxRecDepth 100000
attribute [local irreducible] drawEvent
def nowAfter (r : RegM) (e : EvM) : RegM := if (applyEvent r e).2 = 0 then (applyEvent r e).1 else r
theorem applyEvent_len (r : RegM) (e : EvM) (h : (applyEvent r e).2 = 0) : (applyEvent r e).1.tags.length = r.tags.length ∧ (applyEvent r e).1.roles = r.roles ∧ applyEvent r e = (applyEv r e, 0) ∧ isReg r = true ∧ isEv r e = true ∧ canEv r e = true := by
  unfold applyEvent at *
  split at h
  · rename_i h0
    split at h
    · rename_i h1
      rw [if_pos h0, if_pos h1]
      exact ⟨by simp [applyEv], rfl, rfl, (evCode_zero h0).1, (evCode_zero h0).2, h1⟩
    · cases h
  · rename_i h0; exact absurd h h0
def drawEvs (bs : List UInt8) : Nat → RegM → List EvM → Src → List EvM × Src
  | 0, _, out, s => (out, s)
  | k + 1, now, out, s => drawEvs bs k (nowAfter now (drawEvent bs now.tags now.roles s).1) (out ++ [(drawEvent bs now.tags now.roles s).1]) (drawEvent bs now.tags now.roles s).2
def fillE (bs : List UInt8) : Nat → List EvM → Src → List EvM × Src
  | 0, out, s => (out, s)
  | k + 1, out, s => if (out.length : Int) < 60 + (nx bs 2 s).1 then fillE bs k (out ++ [⟨0, 0, 0, 0⟩]) (nx bs 2 s).2 else (out, (nx bs 2 s).2)
theorem drawEvs_ok (bs : List UInt8) : ∀ (k : Nat) (now : RegM) (out : List EvM) (s : Src), SrcOk s → SrcOk (drawEvs bs k now out s).2 ∧ (drawEvs bs k now out s).1.length = out.length + k
  | 0, _, _, _, h => ⟨h, rfl⟩
  | k + 1, now, out, s, h => by
    have := drawEvs_ok bs k (nowAfter now (drawEvent bs now.tags now.roles s).1) (out ++ [(drawEvent bs now.tags now.roles s).1]) _ (drawEvent_ok bs now.tags now.roles h)
    rw [drawEvs]
    refine ⟨this.1, this.2.trans ?_⟩
    rw [List.length_append, List.length_singleton]; omega
theorem fillE_ok (bs : List UInt8) : ∀ (k : Nat) (out : List EvM) (s : Src), SrcOk s → out.length ≤ 61 → SrcOk (fillE bs k out s).2 ∧ (fillE bs k out s).1.length ≤ 61
  | 0, _, _, h, hl => ⟨h, hl⟩
  | k + 1, out, s, h, hl => by
    have h2 := nx_ok bs 2 h
    rw [fillE]
    split
    · rename_i hlt
      have := h2.2.2.1 (by omega)
      exact fillE_ok bs k _ _ h2.2.2.2 (by rw [List.length_append, List.length_singleton]; omega)
    · exact ⟨h2.2.2.2, hl⟩
def drawEvents (bs : List UInt8) (r : RegM) (s : Src) : List EvM × Src :=
  let a := nx bs 14 s
  let b := if 0 < r.tags.length then drawEvs bs a.1.toNat r [] a.2 else ([], a.2)
  let c := nx bs 40 b.2
  if c.1 = 0 ∧ 0 < r.tags.length then fillE bs 62 b.1 c.2 else (b.1, c.2)
theorem drawEvents_ok (bs : List UInt8) (r : RegM) {s : Src} (h : SrcOk s) : SrcOk (drawEvents bs r s).2 ∧ (drawEvents bs r s).1.length ≤ 61 := by
  have h1 := nx_ok bs 14 h
  have h2 := h1.2.2.1 (by omega)
  have h3 := drawEvs_ok bs (nx bs 14 s).1.toNat r [] _ h1.2.2.2
  have h4 : SrcOk (if 0 < r.tags.length then drawEvs bs (nx bs 14 s).1.toNat r [] (nx bs 14 s).2 else ([], (nx bs 14 s).2)).2 ∧ (if 0 < r.tags.length then drawEvs bs (nx bs 14 s).1.toNat r [] (nx bs 14 s).2 else ([], (nx bs 14 s).2)).1.length ≤ 61 := by
    split
    · refine ⟨h3.1, ?_⟩
      rw [h3.2]; simp; omega
    · exact ⟨h1.2.2.2, by simp⟩
  dsimp only [drawEvents]
  generalize (if 0 < r.tags.length then drawEvs bs (nx bs 14 s).1.toNat r [] (nx bs 14 s).2 else ([], (nx bs 14 s).2)) = b at *
  have h5 := nx_ok bs 40 h4.1
  split
  · exact fillE_ok bs 62 _ _ h5.2.2.2 h4.2
  · exact ⟨h5.2.2.2, h4.2⟩
structure DSt where
  own : Bool
  k : Nat
  now : RegM
  out : List EvM
  s : Src
set_option maxHeartbeats 8000000 in
theorem c_l30DrawEvents (v v2 v3 : Nat) (bs : List UInt8) (r : RegM) (s : Src) (h : SrcOk s) (hl : bs.length ≤ 4096) (hT : r.tags.length ≤ 1048576) (hR : r.roles.length ≤ 1048576) :
    FnM Try.prog 59 [srcB v bs s, .row v2 ⟨3, true⟩ true (r.tags.map eTag), .row v3 ⟨1, false⟩ true (r.roles.map eI)] [.ptr 1000000000 v 0 0, .agg [.ref 1000000001 v2 0 r.tags.length, .ref 1000000002 v3 0 r.roles.length]]
      (fun x io => x = eEvs (drawEvents bs r s).1 ∧ io = [srcB v bs (drawEvents bs r s).2, .row v2 ⟨3, true⟩ true (r.tags.map eTag), .row v3 ⟨1, false⟩ true (r.roles.map eI)]) := by
  refine FnM.of_vcN 61 [.tmp 4] Try.func59 rfl rfl rfl rfl rfl (of_decide_eq_true rfl) ?_
  have h1 := nx_ok bs 14 h
  have h2 := h1.2.2.1 (by omega)
  have hd : drawEvents bs r s = (let c := nx bs 40 (if 0 < r.tags.length then drawEvs bs (nx bs 14 s).1.toNat r [] (nx bs 14 s).2 else ([], (nx bs 14 s).2)).2; if c.1 = 0 ∧ 0 < r.tags.length then fillE bs 62 (if 0 < r.tags.length then drawEvs bs (nx bs 14 s).1.toNat r [] (nx bs 14 s).2 else ([], (nx bs 14 s).2)).1 c.2 else ((if 0 < r.tags.length then drawEvs bs (nx bs 14 s).1.toNat r [] (nx bs 14 s).2 else ([], (nx bs 14 s).2)).1, c.2)) := rfl
  have hB : SrcOk (if 0 < r.tags.length then drawEvs bs (nx bs 14 s).1.toNat r [] (nx bs 14 s).2 else ([], (nx bs 14 s).2)).2 ∧ (if 0 < r.tags.length then drawEvs bs (nx bs 14 s).1.toNat r [] (nx bs 14 s).2 else ([], (nx bs 14 s).2)).1.length ≤ 13 := by
    have h3 := drawEvs_ok bs (nx bs 14 s).1.toNat r [] _ h1.2.2.2
    split
    · refine ⟨h3.1, ?_⟩
      rw [h3.2]; simp; omega
    · exact ⟨h1.2.2.2, by simp⟩
  obtain ⟨b, hb⟩ : ∃ b, (if 0 < r.tags.length then drawEvs bs (nx bs 14 s).1.toNat r [] (nx bs 14 s).2 else ([], (nx bs 14 s).2)) = b := ⟨_, rfl⟩
  rw [hb] at hd hB
  rw [hd]
  clear hd
  dsimp only
  simp -dsimp -implicitDefEqProofs only [go_sem, ↓reduceIte, Nat.reduceEqDiff, Nat.reduceLT, Nat.reduceAdd, Nat.reduceMul, Nat.reduceLeDiff, Nat.le_refl, Int.natCast_zero, Int.toNat_natCast, Int.reduceToNat]
  repeat' (with_reducible refine And.intro ?_ ?_)
  (refine sCallT_io [1000000000] ?_; simp -dsimp -implicitDefEqProofs only [go_sem, ↓reduceIte, Nat.reduceEqDiff, Nat.reduceLT, Nat.reduceAdd, Nat.reduceMul, Nat.reduceLeDiff, Nat.le_refl, Int.natCast_zero, Int.toNat_natCast, Int.reduceToNat]; refine sCallM_one (c_l01Next _ bs 14 _ h hl) ?_; simp -dsimp -implicitDefEqProofs only [go_sem, ↓reduceIte, Nat.reduceEqDiff, Nat.reduceLT, Nat.reduceAdd, Nat.reduceMul, Nat.reduceLeDiff, Nat.le_refl, Int.natCast_zero, Int.toNat_natCast, Int.reduceToNat])
  generalize nx bs 14 s = a at *
  refine Later.lpR [0, 3, 6] [8, 9, 20, 27, 30, 31, 35] [6, 11, 700, 701, 36000, 36001, 1000000000]
    (fun x : DSt => SrcOk x.s ∧ x.now.tags.length = r.tags.length ∧ x.now.roles = r.roles ∧ x.k + x.out.length ≤ 13 ∧ (if 0 < r.tags.length then drawEvs bs x.k x.now x.out x.s else (x.out, x.s)) = b ∧ (x.own = false → x.now = r) ∧ (x.own = true → 0 < r.tags.length))
    (fun x => [(7, eI x.k), (5, .ref 11 0 0 x.out.length)])
    (fun x => (if x.own then [(6, .box 0 [.ref 700 0 0 x.now.tags.length, .ref 701 0 0 x.now.roles.length]), (700, .row 0 ⟨3, true⟩ true (x.now.tags.map eTag)), (701, .row 0 ⟨1, false⟩ true (x.now.roles.map eI))] else [(6, .box 0 [.ref 1000000001 v2 0 r.tags.length, .ref 1000000002 v3 0 r.roles.length])]) ++ [(11, .row 0 ⟨4, true⟩ true (x.out.map eEv)), (1000000000, srcB v bs x.s)])
    (fun x => x.k) ⟨false, a.1.toNat, r, [], a.2⟩ ⟨h1.2.2.2, rfl, rfl, by simp; omega, hb, fun _ => rfl, fun h => by cases h⟩ (.here ?_) rfl (fun x hI => ?_)
  · dsimp only
    rw [show ((a.1.toNat : Nat) : Int) = a.1 by omega]
    simp -dsimp -implicitDefEqProofs only [go_sem, ↓reduceIte, Nat.reduceEqDiff, Nat.reduceLT, Nat.reduceAdd, Nat.reduceMul, Nat.reduceLeDiff, Nat.le_refl, Int.natCast_zero, Int.toNat_natCast, Int.reduceToNat]
  · clear hb h1 h2 h
    obtain ⟨own, k, now, out, s⟩ := x
    obtain ⟨i1, i2, i3, i4, i5, i6, i7⟩ := hI
    dsimp only at i1 i2 i3 i4 i5 i6 i7 ⊢
    cases k with
    | zero =>
      have hbe : (out, s) = b := by
        rw [← i5]; split <;> rfl
      subst hbe
      clear i5 hB
      have hk0 : decide ((0 : Int) > 0) = false := rfl
      cases own with
      | false =>
        simp only [Bool.false_eq_true, if_false]
        simp -dsimp -implicitDefEqProofs only [pick_nil, pick_cons, look_nil, look_cons, dropB_nil, dropB_cons, inD_nil, inD_cons, inE_nil, inE_cons, or_t_l, or_f_l, Nat.reduceBEq, Nat.reduceDiv, Nat.reduceAdd, beq_self_eq_true, Bool.false_eq_true, Bool.or_false, ↓reduceIte, Nat.reduceEqDiff, List.cons_append, List.nil_append]
        simp -dsimp -implicitDefEqProofs only [go_sem, ↓reduceIte, Nat.reduceEqDiff, Nat.reduceLT, Nat.reduceAdd, Nat.reduceMul, Nat.reduceLeDiff, Nat.le_refl, Int.natCast_zero, Int.toNat_natCast, Int.reduceToNat, hk0]
        try dsimp only
        (refine sCallT_io [1000000000] ?_; simp -dsimp -implicitDefEqProofs only [go_sem, ↓reduceIte, Nat.reduceEqDiff, Nat.reduceLT, Nat.reduceAdd, Nat.reduceMul, Nat.reduceLeDiff, Nat.le_refl, Int.natCast_zero, Int.toNat_natCast, Int.reduceToNat]; refine sCallM_one (c_l01Next _ bs 40 _ i1 hl) ?_; simp -dsimp -implicitDefEqProofs only [go_sem, ↓reduceIte, Nat.reduceEqDiff, Nat.reduceLT, Nat.reduceAdd, Nat.reduceMul, Nat.reduceLeDiff, Nat.le_refl, Int.natCast_zero, Int.toNat_natCast, Int.reduceToNat])
        have hco := (nx_ok bs 40 i1).2.2.2
        generalize nx bs 40 s = c at *
        rcases hc : (c.1 == 0) with _ | _
        · have hc1 : ¬ c.1 = 0 := by simpa using hc
          rw [if_neg (fun h => hc1 h.1)]
          simp -dsimp -implicitDefEqProofs only [go_sem, ↓reduceIte, Nat.reduceEqDiff, Nat.reduceLT, Nat.reduceAdd, Nat.reduceMul, Nat.reduceLeDiff, Nat.le_refl, Int.natCast_zero, Int.toNat_natCast, Int.reduceToNat, hc]
          all_goals (first | omega | (refine ⟨?_, ?_⟩ <;> omega) | (exact rfl) | (simp; done) | (simp [*]; done) | trace_state)
        rcases hT0 : decide ((r.tags.length : Int) > 0) with _ | _
        · have hT1 := of_decide_eq_false hT0
          rw [if_neg (fun h => hT1 (by omega))]
          simp -dsimp -implicitDefEqProofs only [go_sem, ↓reduceIte, Nat.reduceEqDiff, Nat.reduceLT, Nat.reduceAdd, Nat.reduceMul, Nat.reduceLeDiff, Nat.le_refl, Int.natCast_zero, Int.toNat_natCast, Int.reduceToNat, hc, hT0]
          repeat' (with_reducible refine And.intro ?_ ?_)
          all_goals (first | omega | (refine ⟨?_, ?_⟩ <;> omega) | (exact rfl) | (simp; done) | (simp [*]; done) | trace_state)
        have hT1 := of_decide_eq_true hT0
        rw [if_pos ⟨by simpa using hc, by omega⟩]
        simp -dsimp -implicitDefEqProofs only [go_sem, ↓reduceIte, Nat.reduceEqDiff, Nat.reduceLT, Nat.reduceAdd, Nat.reduceMul, Nat.reduceLeDiff, Nat.le_refl, Int.natCast_zero, Int.toNat_natCast, Int.reduceToNat, hc, hT0]
        repeat' (with_reducible refine And.intro ?_ ?_)
        all_goals try (first | omega | (simp; done))
        have hfl := fillE_ok bs 62 out c.2 hco (by omega)
        obtain ⟨z, hz⟩ : ∃ z, fillE bs 62 out c.2 = z := ⟨_, rfl⟩
        rw [hz] at hfl ⊢
        refine Later.lp [0] [51, 53, 58, 59] [11, 1000000000] (fun x : Nat × List EvM × Src => SrcOk x.2.2 ∧ x.2.1.length ≤ 61 ∧ 62 ≤ x.1 + x.2.1.length ∧ fillE bs x.1 x.2.1 x.2.2 = z)
          (fun x => [(5, .ref 11 0 0 x.2.1.length)]) (fun x => [(11, .row 0 ⟨4, true⟩ true (x.2.1.map eEv)), (1000000000, srcB v bs x.2.2)]) (fun x => x.1) (62, out, c.2) ⟨hco, by dsimp only; omega, by dsimp only; omega, hz⟩ ?_ rfl (fun x hI => ?_)
        · simp -dsimp -implicitDefEqProofs only [go_sem, ↓reduceIte, Nat.reduceEqDiff, Nat.reduceLT, Nat.reduceAdd, Nat.reduceMul, Nat.reduceLeDiff, Nat.le_refl, Int.natCast_zero, Int.toNat_natCast, Int.reduceToNat]
        · obtain ⟨k, out, s⟩ := x
          obtain ⟨q1, q2, q3, q4⟩ := hI
          dsimp only at q1 q2 q3 q4 ⊢
          clear hz
          cases k with
          | zero => exact absurd q3 (by omega)
          | succ k =>
            rw [fillE] at q4
            have hx := nx_ok bs 2 q1
            have hx2 := hx.2.2.1 (by omega)
            have hcn := fun v => c_l01Next v bs 2 s q1 hl
            generalize nx bs 2 s = y at *
            simp -dsimp -implicitDefEqProofs only [pick_nil, pick_cons, look_nil, look_cons, dropB_nil, dropB_cons, inD_nil, inD_cons, inE_nil, inE_cons, or_t_l, or_f_l, Nat.reduceBEq, Nat.reduceDiv, Nat.reduceAdd, beq_self_eq_true, Bool.false_eq_true, Bool.or_false, ↓reduceIte, Nat.reduceEqDiff, List.cons_append, List.nil_append]
            simp -dsimp -implicitDefEqProofs only [go_sem, ↓reduceIte, Nat.reduceEqDiff, Nat.reduceLT, Nat.reduceAdd, Nat.reduceMul, Nat.reduceLeDiff, Nat.le_refl, Int.natCast_zero, Int.toNat_natCast, Int.reduceToNat]
            repeat' (with_reducible refine And.intro ?_ ?_)
            all_goals try (first | omega | (simp; done))
            (refine sCallT_io [1000000000] ?_; simp -dsimp -implicitDefEqProofs only [go_sem, ↓reduceIte, Nat.reduceEqDiff, Nat.reduceLT, Nat.reduceAdd, Nat.reduceMul, Nat.reduceLeDiff, Nat.le_refl, Int.natCast_zero, Int.toNat_natCast, Int.reduceToNat]; refine sCallM_one (hcn _) ?_; simp -dsimp -implicitDefEqProofs only [go_sem, ↓reduceIte, Nat.reduceEqDiff, Nat.reduceLT, Nat.reduceAdd, Nat.reduceMul, Nat.reduceLeDiff, Nat.le_refl, Int.natCast_zero, Int.toNat_natCast, Int.reduceToNat])
            repeat' (with_reducible refine And.intro ?_ ?_)
            all_goals try (first | omega | (refine ⟨?_, ?_⟩ <;> omega))
            rcases hlt : decide ((out.length : Int) < 60 + y.1) with _ | _
            · have hlt1 := of_decide_eq_false hlt
              rw [if_neg hlt1] at q4
              subst q4
              simp -dsimp -implicitDefEqProofs only [go_sem, ↓reduceIte, Nat.reduceEqDiff, Nat.reduceLT, Nat.reduceAdd, Nat.reduceMul, Nat.reduceLeDiff, Nat.le_refl, Int.natCast_zero, Int.toNat_natCast, Int.reduceToNat, hlt]
              all_goals (first | omega | (refine ⟨?_, ?_⟩ <;> omega) | (exact rfl) | (simp; done) | (simp [*]; done) | trace_state)
            · have hlt1 := of_decide_eq_true hlt
              rw [if_pos hlt1] at q4
              simp -dsimp -implicitDefEqProofs only [go_sem, ↓reduceIte, Nat.reduceEqDiff, Nat.reduceLT, Nat.reduceAdd, Nat.reduceMul, Nat.reduceLeDiff, Nat.le_refl, Int.natCast_zero, Int.toNat_natCast, Int.reduceToNat, hlt]
              repeat' (with_reducible refine And.intro ?_ ?_)
              all_goals try (first | omega | (refine ⟨?_, ?_⟩ <;> omega))
              refine ⟨(k, out ++ [⟨0, 0, 0, 0⟩], y.2), ⟨hx.2.2.2, by simp; omega, by simp; omega, q4⟩, by dsimp only; omega, ?_⟩
              simp -dsimp -implicitDefEqProofs only [go_sem, ↓reduceIte, Nat.reduceEqDiff, Nat.reduceLT, Nat.reduceAdd, Nat.reduceMul, Nat.reduceLeDiff, Nat.le_refl, Int.natCast_zero, Int.toNat_natCast, Int.reduceToNat]
              all_goals first | (simp; done) | trace_state
      | true =>
        simp only [if_true]
        simp -dsimp -implicitDefEqProofs only [pick_nil, pick_cons, look_nil, look_cons, dropB_nil, dropB_cons, inD_nil, inD_cons, inE_nil, inE_cons, or_t_l, or_f_l, Nat.reduceBEq, Nat.reduceDiv, Nat.reduceAdd, beq_self_eq_true, Bool.false_eq_true, Bool.or_false, ↓reduceIte, Nat.reduceEqDiff, List.cons_append, List.nil_append]
        simp -dsimp -implicitDefEqProofs only [go_sem, ↓reduceIte, Nat.reduceEqDiff, Nat.reduceLT, Nat.reduceAdd, Nat.reduceMul, Nat.reduceLeDiff, Nat.le_refl, Int.natCast_zero, Int.toNat_natCast, Int.reduceToNat, hk0]
        try dsimp only
        (refine sCallT_io [1000000000] ?_; simp -dsimp -implicitDefEqProofs only [go_sem, ↓reduceIte, Nat.reduceEqDiff, Nat.reduceLT, Nat.reduceAdd, Nat.reduceMul, Nat.reduceLeDiff, Nat.le_refl, Int.natCast_zero, Int.toNat_natCast, Int.reduceToNat]; refine sCallM_one (c_l01Next _ bs 40 _ i1 hl) ?_; simp -dsimp -implicitDefEqProofs only [go_sem, ↓reduceIte, Nat.reduceEqDiff, Nat.reduceLT, Nat.reduceAdd, Nat.reduceMul, Nat.reduceLeDiff, Nat.le_refl, Int.natCast_zero, Int.toNat_natCast, Int.reduceToNat])
        have hco := (nx_ok bs 40 i1).2.2.2
        generalize nx bs 40 s = c at *
        rcases hc : (c.1 == 0) with _ | _
        · have hc1 : ¬ c.1 = 0 := by simpa using hc
          rw [if_neg (fun h => hc1 h.1)]
          simp -dsimp -implicitDefEqProofs only [go_sem, ↓reduceIte, Nat.reduceEqDiff, Nat.reduceLT, Nat.reduceAdd, Nat.reduceMul, Nat.reduceLeDiff, Nat.le_refl, Int.natCast_zero, Int.toNat_natCast, Int.reduceToNat, hc]
          all_goals (first | omega | (refine ⟨?_, ?_⟩ <;> omega) | (exact rfl) | (simp; done) | (simp [*]; done) | trace_state)
        rcases hT0 : decide ((r.tags.length : Int) > 0) with _ | _
        · have hT1 := of_decide_eq_false hT0
          rw [if_neg (fun h => hT1 (by omega))]
          simp -dsimp -implicitDefEqProofs only [go_sem, ↓reduceIte, Nat.reduceEqDiff, Nat.reduceLT, Nat.reduceAdd, Nat.reduceMul, Nat.reduceLeDiff, Nat.le_refl, Int.natCast_zero, Int.toNat_natCast, Int.reduceToNat, hc, hT0]
          repeat' (with_reducible refine And.intro ?_ ?_)
          all_goals (first | omega | (refine ⟨?_, ?_⟩ <;> omega) | (exact rfl) | (simp; done) | (simp [*]; done) | trace_state)
        have hT1 := of_decide_eq_true hT0
        rw [if_pos ⟨by simpa using hc, by omega⟩]
        simp -dsimp -implicitDefEqProofs only [go_sem, ↓reduceIte, Nat.reduceEqDiff, Nat.reduceLT, Nat.reduceAdd, Nat.reduceMul, Nat.reduceLeDiff, Nat.le_refl, Int.natCast_zero, Int.toNat_natCast, Int.reduceToNat, hc, hT0]
        repeat' (with_reducible refine And.intro ?_ ?_)
        all_goals try (first | omega | (simp; done))
        have hfl := fillE_ok bs 62 out c.2 hco (by omega)
        obtain ⟨z, hz⟩ : ∃ z, fillE bs 62 out c.2 = z := ⟨_, rfl⟩
        rw [hz] at hfl ⊢
        refine Later.lp [0] [51, 53, 58, 59] [11, 1000000000] (fun x : Nat × List EvM × Src => SrcOk x.2.2 ∧ x.2.1.length ≤ 61 ∧ 62 ≤ x.1 + x.2.1.length ∧ fillE bs x.1 x.2.1 x.2.2 = z)
          (fun x => [(5, .ref 11 0 0 x.2.1.length)]) (fun x => [(11, .row 0 ⟨4, true⟩ true (x.2.1.map eEv)), (1000000000, srcB v bs x.2.2)]) (fun x => x.1) (62, out, c.2) ⟨hco, by dsimp only; omega, by dsimp only; omega, hz⟩ ?_ rfl (fun x hI => ?_)
        · simp -dsimp -implicitDefEqProofs only [go_sem, ↓reduceIte, Nat.reduceEqDiff, Nat.reduceLT, Nat.reduceAdd, Nat.reduceMul, Nat.reduceLeDiff, Nat.le_refl, Int.natCast_zero, Int.toNat_natCast, Int.reduceToNat]
        · obtain ⟨k, out, s⟩ := x
          obtain ⟨q1, q2, q3, q4⟩ := hI
          dsimp only at q1 q2 q3 q4 ⊢
          clear hz
          cases k with
          | zero => exact absurd q3 (by omega)
          | succ k =>
            rw [fillE] at q4
            have hx := nx_ok bs 2 q1
            have hx2 := hx.2.2.1 (by omega)
            have hcn := fun v => c_l01Next v bs 2 s q1 hl
            generalize nx bs 2 s = y at *
            simp -dsimp -implicitDefEqProofs only [pick_nil, pick_cons, look_nil, look_cons, dropB_nil, dropB_cons, inD_nil, inD_cons, inE_nil, inE_cons, or_t_l, or_f_l, Nat.reduceBEq, Nat.reduceDiv, Nat.reduceAdd, beq_self_eq_true, Bool.false_eq_true, Bool.or_false, ↓reduceIte, Nat.reduceEqDiff, List.cons_append, List.nil_append]
            simp -dsimp -implicitDefEqProofs only [go_sem, ↓reduceIte, Nat.reduceEqDiff, Nat.reduceLT, Nat.reduceAdd, Nat.reduceMul, Nat.reduceLeDiff, Nat.le_refl, Int.natCast_zero, Int.toNat_natCast, Int.reduceToNat]
            repeat' (with_reducible refine And.intro ?_ ?_)
            all_goals try (first | omega | (simp; done))
            (refine sCallT_io [1000000000] ?_; simp -dsimp -implicitDefEqProofs only [go_sem, ↓reduceIte, Nat.reduceEqDiff, Nat.reduceLT, Nat.reduceAdd, Nat.reduceMul, Nat.reduceLeDiff, Nat.le_refl, Int.natCast_zero, Int.toNat_natCast, Int.reduceToNat]; refine sCallM_one (hcn _) ?_; simp -dsimp -implicitDefEqProofs only [go_sem, ↓reduceIte, Nat.reduceEqDiff, Nat.reduceLT, Nat.reduceAdd, Nat.reduceMul, Nat.reduceLeDiff, Nat.le_refl, Int.natCast_zero, Int.toNat_natCast, Int.reduceToNat])
            repeat' (with_reducible refine And.intro ?_ ?_)
            all_goals try (first | omega | (refine ⟨?_, ?_⟩ <;> omega))
            rcases hlt : decide ((out.length : Int) < 60 + y.1) with _ | _
            · have hlt1 := of_decide_eq_false hlt
              rw [if_neg hlt1] at q4
              subst q4
              simp -dsimp -implicitDefEqProofs only [go_sem, ↓reduceIte, Nat.reduceEqDiff, Nat.reduceLT, Nat.reduceAdd, Nat.reduceMul, Nat.reduceLeDiff, Nat.le_refl, Int.natCast_zero, Int.toNat_natCast, Int.reduceToNat, hlt]
              all_goals (first | omega | (refine ⟨?_, ?_⟩ <;> omega) | (exact rfl) | (simp; done) | (simp [*]; done) | trace_state)
            · have hlt1 := of_decide_eq_true hlt
              rw [if_pos hlt1] at q4
              simp -dsimp -implicitDefEqProofs only [go_sem, ↓reduceIte, Nat.reduceEqDiff, Nat.reduceLT, Nat.reduceAdd, Nat.reduceMul, Nat.reduceLeDiff, Nat.le_refl, Int.natCast_zero, Int.toNat_natCast, Int.reduceToNat, hlt]
              repeat' (with_reducible refine And.intro ?_ ?_)
              all_goals try (first | omega | (refine ⟨?_, ?_⟩ <;> omega))
              refine ⟨(k, out ++ [⟨0, 0, 0, 0⟩], y.2), ⟨hx.2.2.2, by simp; omega, by simp; omega, q4⟩, by dsimp only; omega, ?_⟩
              simp -dsimp -implicitDefEqProofs only [go_sem, ↓reduceIte, Nat.reduceEqDiff, Nat.reduceLT, Nat.reduceAdd, Nat.reduceMul, Nat.reduceLeDiff, Nat.le_refl, Int.natCast_zero, Int.toNat_natCast, Int.reduceToNat]
              all_goals first | (simp; done) | trace_state
    | succ k =>
      have hk0 : decide (((k + 1 : Nat) : Int) > 0) = true := decide_eq_true (by omega)
      rcases hT0 : decide ((r.tags.length : Int) > 0) with _ | _
      · have hT1 := of_decide_eq_false hT0
        have hbe : (out, s) = b := by
          rw [← i5, if_neg (by omega)]
        subst hbe
        clear i5 hB
        cases own with
        | false =>
          simp only [Bool.false_eq_true, if_false]
          simp -dsimp -implicitDefEqProofs only [pick_nil, pick_cons, look_nil, look_cons, dropB_nil, dropB_cons, inD_nil, inD_cons, inE_nil, inE_cons, or_t_l, or_f_l, Nat.reduceBEq, Nat.reduceDiv, Nat.reduceAdd, beq_self_eq_true, Bool.false_eq_true, Bool.or_false, ↓reduceIte, Nat.reduceEqDiff, List.cons_append, List.nil_append]
          simp -dsimp -implicitDefEqProofs only [go_sem, ↓reduceIte, Nat.reduceEqDiff, Nat.reduceLT, Nat.reduceAdd, Nat.reduceMul, Nat.reduceLeDiff, Nat.le_refl, Int.natCast_zero, Int.toNat_natCast, Int.reduceToNat, hk0, hT0]
          clear hT0 hT1
          try dsimp only
          (refine sCallT_io [1000000000] ?_; simp -dsimp -implicitDefEqProofs only [go_sem, ↓reduceIte, Nat.reduceEqDiff, Nat.reduceLT, Nat.reduceAdd, Nat.reduceMul, Nat.reduceLeDiff, Nat.le_refl, Int.natCast_zero, Int.toNat_natCast, Int.reduceToNat]; refine sCallM_one (c_l01Next _ bs 40 _ i1 hl) ?_; simp -dsimp -implicitDefEqProofs only [go_sem, ↓reduceIte, Nat.reduceEqDiff, Nat.reduceLT, Nat.reduceAdd, Nat.reduceMul, Nat.reduceLeDiff, Nat.le_refl, Int.natCast_zero, Int.toNat_natCast, Int.reduceToNat])
          have hco := (nx_ok bs 40 i1).2.2.2
          generalize nx bs 40 s = c at *
          rcases hc : (c.1 == 0) with _ | _
          · have hc1 : ¬ c.1 = 0 := by simpa using hc
            rw [if_neg (fun h => hc1 h.1)]
            simp -dsimp -implicitDefEqProofs only [go_sem, ↓reduceIte, Nat.reduceEqDiff, Nat.reduceLT, Nat.reduceAdd, Nat.reduceMul, Nat.reduceLeDiff, Nat.le_refl, Int.natCast_zero, Int.toNat_natCast, Int.reduceToNat, hc]
            all_goals (first | omega | (refine ⟨?_, ?_⟩ <;> omega) | (exact rfl) | (simp; done) | (simp [*]; done) | trace_state)
          rcases hT0 : decide ((r.tags.length : Int) > 0) with _ | _
          · have hT1 := of_decide_eq_false hT0
            rw [if_neg (fun h => hT1 (by omega))]
            simp -dsimp -implicitDefEqProofs only [go_sem, ↓reduceIte, Nat.reduceEqDiff, Nat.reduceLT, Nat.reduceAdd, Nat.reduceMul, Nat.reduceLeDiff, Nat.le_refl, Int.natCast_zero, Int.toNat_natCast, Int.reduceToNat, hc, hT0]
            repeat' (with_reducible refine And.intro ?_ ?_)
            all_goals (first | omega | (refine ⟨?_, ?_⟩ <;> omega) | (exact rfl) | (simp; done) | (simp [*]; done) | trace_state)
          have hT1 := of_decide_eq_true hT0
          rw [if_pos ⟨by simpa using hc, by omega⟩]
          simp -dsimp -implicitDefEqProofs only [go_sem, ↓reduceIte, Nat.reduceEqDiff, Nat.reduceLT, Nat.reduceAdd, Nat.reduceMul, Nat.reduceLeDiff, Nat.le_refl, Int.natCast_zero, Int.toNat_natCast, Int.reduceToNat, hc, hT0]
          repeat' (with_reducible refine And.intro ?_ ?_)
          all_goals try (first | omega | (simp; done))
          have hfl := fillE_ok bs 62 out c.2 hco (by omega)
          obtain ⟨z, hz⟩ : ∃ z, fillE bs 62 out c.2 = z := ⟨_, rfl⟩
          rw [hz] at hfl ⊢
          refine Later.lp [0] [51, 53, 58, 59] [11, 1000000000] (fun x : Nat × List EvM × Src => SrcOk x.2.2 ∧ x.2.1.length ≤ 61 ∧ 62 ≤ x.1 + x.2.1.length ∧ fillE bs x.1 x.2.1 x.2.2 = z)
            (fun x => [(5, .ref 11 0 0 x.2.1.length)]) (fun x => [(11, .row 0 ⟨4, true⟩ true (x.2.1.map eEv)), (1000000000, srcB v bs x.2.2)]) (fun x => x.1) (62, out, c.2) ⟨hco, by dsimp only; omega, by dsimp only; omega, hz⟩ ?_ rfl (fun x hI => ?_)
          · simp -dsimp -implicitDefEqProofs only [go_sem, ↓reduceIte, Nat.reduceEqDiff, Nat.reduceLT, Nat.reduceAdd, Nat.reduceMul, Nat.reduceLeDiff, Nat.le_refl, Int.natCast_zero, Int.toNat_natCast, Int.reduceToNat]
          · obtain ⟨k, out, s⟩ := x
            obtain ⟨q1, q2, q3, q4⟩ := hI
            dsimp only at q1 q2 q3 q4 ⊢
            clear hz
            cases k with
            | zero => exact absurd q3 (by omega)
            | succ k =>
              rw [fillE] at q4
              have hx := nx_ok bs 2 q1
              have hx2 := hx.2.2.1 (by omega)
              have hcn := fun v => c_l01Next v bs 2 s q1 hl
              generalize nx bs 2 s = y at *
              simp -dsimp -implicitDefEqProofs only [pick_nil, pick_cons, look_nil, look_cons, dropB_nil, dropB_cons, inD_nil, inD_cons, inE_nil, inE_cons, or_t_l, or_f_l, Nat.reduceBEq, Nat.reduceDiv, Nat.reduceAdd, beq_self_eq_true, Bool.false_eq_true, Bool.or_false, ↓reduceIte, Nat.reduceEqDiff, List.cons_append, List.nil_append]
              simp -dsimp -implicitDefEqProofs only [go_sem, ↓reduceIte, Nat.reduceEqDiff, Nat.reduceLT, Nat.reduceAdd, Nat.reduceMul, Nat.reduceLeDiff, Nat.le_refl, Int.natCast_zero, Int.toNat_natCast, Int.reduceToNat]
              repeat' (with_reducible refine And.intro ?_ ?_)
              all_goals try (first | omega | (simp; done))
              (refine sCallT_io [1000000000] ?_; simp -dsimp -implicitDefEqProofs only [go_sem, ↓reduceIte, Nat.reduceEqDiff, Nat.reduceLT, Nat.reduceAdd, Nat.reduceMul, Nat.reduceLeDiff, Nat.le_refl, Int.natCast_zero, Int.toNat_natCast, Int.reduceToNat]; refine sCallM_one (hcn _) ?_; simp -dsimp -implicitDefEqProofs only [go_sem, ↓reduceIte, Nat.reduceEqDiff, Nat.reduceLT, Nat.reduceAdd, Nat.reduceMul, Nat.reduceLeDiff, Nat.le_refl, Int.natCast_zero, Int.toNat_natCast, Int.reduceToNat])
              repeat' (with_reducible refine And.intro ?_ ?_)
              all_goals try (first | omega | (refine ⟨?_, ?_⟩ <;> omega))
              rcases hlt : decide ((out.length : Int) < 60 + y.1) with _ | _
              · have hlt1 := of_decide_eq_false hlt
                rw [if_neg hlt1] at q4
                subst q4
                simp -dsimp -implicitDefEqProofs only [go_sem, ↓reduceIte, Nat.reduceEqDiff, Nat.reduceLT, Nat.reduceAdd, Nat.reduceMul, Nat.reduceLeDiff, Nat.le_refl, Int.natCast_zero, Int.toNat_natCast, Int.reduceToNat, hlt]
                all_goals (first | omega | (refine ⟨?_, ?_⟩ <;> omega) | (exact rfl) | (simp; done) | (simp [*]; done) | trace_state)
              · have hlt1 := of_decide_eq_true hlt
                rw [if_pos hlt1] at q4
                simp -dsimp -implicitDefEqProofs only [go_sem, ↓reduceIte, Nat.reduceEqDiff, Nat.reduceLT, Nat.reduceAdd, Nat.reduceMul, Nat.reduceLeDiff, Nat.le_refl, Int.natCast_zero, Int.toNat_natCast, Int.reduceToNat, hlt]
                repeat' (with_reducible refine And.intro ?_ ?_)
                all_goals try (first | omega | (refine ⟨?_, ?_⟩ <;> omega))
                refine ⟨(k, out ++ [⟨0, 0, 0, 0⟩], y.2), ⟨hx.2.2.2, by simp; omega, by simp; omega, q4⟩, by dsimp only; omega, ?_⟩
                simp -dsimp -implicitDefEqProofs only [go_sem, ↓reduceIte, Nat.reduceEqDiff, Nat.reduceLT, Nat.reduceAdd, Nat.reduceMul, Nat.reduceLeDiff, Nat.le_refl, Int.natCast_zero, Int.toNat_natCast, Int.reduceToNat]
                all_goals first | (simp; done) | trace_state
        | true => exact absurd (i7 rfl) (by omega)
      · have hT1 := of_decide_eq_true hT0
        rw [if_pos (by omega), drawEvs] at i5
        have hde := fun v v2 v3 d2 d3 => c_l30DrawEvent v v2 v3 d2 d3 bs now.tags now.roles s i1 hl (by omega) (by rw [i3]; exact hR)
        have hdo := drawEvent_ok bs now.tags now.roles i1
        have hrl : now.roles.length ≤ 1048576 := by rw [i3]; exact hR
        generalize drawEvent bs now.tags now.roles s = p at *
        cases own with
        | false =>
          have e := i6 rfl
          subst e
          simp only [Bool.false_eq_true, if_false]
          simp -dsimp -implicitDefEqProofs only [pick_nil, pick_cons, look_nil, look_cons, dropB_nil, dropB_cons, inD_nil, inD_cons, inE_nil, inE_cons, or_t_l, or_f_l, Nat.reduceBEq, Nat.reduceDiv, Nat.reduceAdd, beq_self_eq_true, Bool.false_eq_true, Bool.or_false, ↓reduceIte, Nat.reduceEqDiff, List.cons_append, List.nil_append]
          simp -dsimp -implicitDefEqProofs only [go_sem, ↓reduceIte, Nat.reduceEqDiff, Nat.reduceLT, Nat.reduceAdd, Nat.reduceMul, Nat.reduceLeDiff, Nat.le_refl, Int.natCast_zero, Int.toNat_natCast, Int.reduceToNat, hk0, hT0]
          refine sCallT_io [1000000000, 1000000001, 1000000002] ?_
          simp -dsimp -implicitDefEqProofs only [go_sem, ↓reduceIte, Nat.reduceEqDiff, Nat.reduceLT, Nat.reduceAdd, Nat.reduceMul, Nat.reduceLeDiff, Nat.le_refl, Int.natCast_zero, Int.toNat_natCast, Int.reduceToNat]
          refine sCallM_one (hde _ _ _ _ _) ?_
          clear hde
          simp -dsimp -implicitDefEqProofs only [go_sem, ↓reduceIte, Nat.reduceEqDiff, Nat.reduceLT, Nat.reduceAdd, Nat.reduceMul, Nat.reduceLeDiff, Nat.le_refl, Int.natCast_zero, Int.toNat_natCast, Int.reduceToNat]
          repeat' first
            | (with_reducible refine And.intro ?_ ?_)
            | (refine sCallT_one (c_sApplyEvent now p.1 (by omega) (by omega)) ?_; try simp -dsimp -implicitDefEqProofs only [go_sem, ↓reduceIte, Nat.reduceEqDiff, Nat.reduceLT, Nat.reduceAdd, Nat.reduceMul, Nat.reduceLeDiff, Nat.le_refl, Int.natCast_zero, Int.toNat_natCast, Int.reduceToNat, *])
          all_goals try (first | omega | (simp; done))
          rcases hcd : ((applyEvent now p.1).2 == 0) with _ | _
          · have hna : nowAfter now p.1 = now := by rw [nowAfter, if_neg (by simpa using hcd)]
            rw [hna] at i5
            clear hna
            simp -dsimp -implicitDefEqProofs only [go_sem, ↓reduceIte, Nat.reduceEqDiff, Nat.reduceLT, Nat.reduceAdd, Nat.reduceMul, Nat.reduceLeDiff, Nat.le_refl, Int.natCast_zero, Int.toNat_natCast, Int.reduceToNat, hcd]
            repeat' (with_reducible refine And.intro ?_ ?_)
            all_goals try (first | omega | (refine ⟨?_, ?_⟩ <;> omega))
            refine ⟨⟨false, k, now, out ++ [p.1], p.2⟩, ⟨hdo, i2, i3, by simp; omega, by rw [if_pos (by omega)]; exact i5, i6, fun _ => by omega⟩, Nat.lt_succ_self k, .here ?_⟩
            simp only [Bool.false_eq_true, if_false]
            simp -dsimp -implicitDefEqProofs only [go_sem, ↓reduceIte, Nat.reduceEqDiff, Nat.reduceLT, Nat.reduceAdd, Nat.reduceMul, Nat.reduceLeDiff, Nat.le_refl, Int.natCast_zero, Int.toNat_natCast, Int.reduceToNat]
            all_goals first | (simp; done) | omega | (exact ⟨rfl, rfl⟩) | (simp [i2, i3]; done) | trace_state
          · have hna : nowAfter now p.1 = (applyEvent now p.1).1 := by rw [nowAfter, if_pos (by simpa using hcd)]
            rw [hna] at i5
            have hap := applyEvent_len now p.1 (by simpa using hcd)
            obtain ⟨l1, l2, _⟩ := hap
            clear hna
            generalize (applyEvent now p.1).1 = nw at *
            simp -dsimp -implicitDefEqProofs only [go_sem, ↓reduceIte, Nat.reduceEqDiff, Nat.reduceLT, Nat.reduceAdd, Nat.reduceMul, Nat.reduceLeDiff, Nat.le_refl, Int.natCast_zero, Int.toNat_natCast, Int.reduceToNat, hcd]
            repeat' (with_reducible refine And.intro ?_ ?_)
            all_goals try (first | omega | (refine ⟨?_, ?_⟩ <;> omega))
            refine ⟨⟨true, k, nw, out ++ [p.1], p.2⟩, ⟨hdo, l1.trans i2, l2.trans i3, by simp; omega, by rw [if_pos (by omega)]; exact i5, fun h => (by cases h), fun _ => by omega⟩, Nat.lt_succ_self k, .two 36000 700 36001 701 (by decide) (by decide) (by decide) (by decide) ?_⟩
            simp only [if_true]
            simp -dsimp -implicitDefEqProofs only [go_sem, ↓reduceIte, Nat.reduceEqDiff, Nat.reduceLT, Nat.reduceAdd, Nat.reduceMul, Nat.reduceLeDiff, Nat.le_refl, Int.natCast_zero, Int.toNat_natCast, Int.reduceToNat]
            all_goals first | (simp; done) | omega | (exact ⟨rfl, rfl⟩) | (simp [i2, i3]; done) | trace_state
        | true =>
          simp only [if_true]
          simp -dsimp -implicitDefEqProofs only [pick_nil, pick_cons, look_nil, look_cons, dropB_nil, dropB_cons, inD_nil, inD_cons, inE_nil, inE_cons, or_t_l, or_f_l, Nat.reduceBEq, Nat.reduceDiv, Nat.reduceAdd, beq_self_eq_true, Bool.false_eq_true, Bool.or_false, ↓reduceIte, Nat.reduceEqDiff, List.cons_append, List.nil_append]
          simp -dsimp -implicitDefEqProofs only [go_sem, ↓reduceIte, Nat.reduceEqDiff, Nat.reduceLT, Nat.reduceAdd, Nat.reduceMul, Nat.reduceLeDiff, Nat.le_refl, Int.natCast_zero, Int.toNat_natCast, Int.reduceToNat, hk0, hT0]
          refine sCallT_io [1000000000, 700, 701] ?_
          simp -dsimp -implicitDefEqProofs only [go_sem, ↓reduceIte, Nat.reduceEqDiff, Nat.reduceLT, Nat.reduceAdd, Nat.reduceMul, Nat.reduceLeDiff, Nat.le_refl, Int.natCast_zero, Int.toNat_natCast, Int.reduceToNat]
          refine sCallM_one (hde _ _ _ _ _) ?_
          clear hde
          simp -dsimp -implicitDefEqProofs only [go_sem, ↓reduceIte, Nat.reduceEqDiff, Nat.reduceLT, Nat.reduceAdd, Nat.reduceMul, Nat.reduceLeDiff, Nat.le_refl, Int.natCast_zero, Int.toNat_natCast, Int.reduceToNat]
          repeat' first
            | (with_reducible refine And.intro ?_ ?_)
            | (refine sCallT_one (c_sApplyEvent now p.1 (by omega) (by omega)) ?_; try simp -dsimp -implicitDefEqProofs only [go_sem, ↓reduceIte, Nat.reduceEqDiff, Nat.reduceLT, Nat.reduceAdd, Nat.reduceMul, Nat.reduceLeDiff, Nat.le_refl, Int.natCast_zero, Int.toNat_natCast, Int.reduceToNat, *])
          all_goals try (first | omega | (simp; done))
          rcases hcd : ((applyEvent now p.1).2 == 0) with _ | _
          · have hna : nowAfter now p.1 = now := by rw [nowAfter, if_neg (by simpa using hcd)]
            rw [hna] at i5
            clear hna
            simp -dsimp -implicitDefEqProofs only [go_sem, ↓reduceIte, Nat.reduceEqDiff, Nat.reduceLT, Nat.reduceAdd, Nat.reduceMul, Nat.reduceLeDiff, Nat.le_refl, Int.natCast_zero, Int.toNat_natCast, Int.reduceToNat, hcd]
            repeat' (with_reducible refine And.intro ?_ ?_)
            all_goals try (first | omega | (refine ⟨?_, ?_⟩ <;> omega))
            refine ⟨⟨true, k, now, out ++ [p.1], p.2⟩, ⟨hdo, i2, i3, by simp; omega, by rw [if_pos (by omega)]; exact i5, i6, fun _ => by omega⟩, Nat.lt_succ_self k, .here ?_⟩
            simp only [if_true]
            simp -dsimp -implicitDefEqProofs only [go_sem, ↓reduceIte, Nat.reduceEqDiff, Nat.reduceLT, Nat.reduceAdd, Nat.reduceMul, Nat.reduceLeDiff, Nat.le_refl, Int.natCast_zero, Int.toNat_natCast, Int.reduceToNat]
            all_goals first | (simp; done) | omega | (exact ⟨rfl, rfl⟩) | (simp [i2, i3]; done) | trace_state
          · have hna : nowAfter now p.1 = (applyEvent now p.1).1 := by rw [nowAfter, if_pos (by simpa using hcd)]
            rw [hna] at i5
            have hap := applyEvent_len now p.1 (by simpa using hcd)
            obtain ⟨l1, l2, _⟩ := hap
            clear hna
            generalize (applyEvent now p.1).1 = nw at *
            simp -dsimp -implicitDefEqProofs only [go_sem, ↓reduceIte, Nat.reduceEqDiff, Nat.reduceLT, Nat.reduceAdd, Nat.reduceMul, Nat.reduceLeDiff, Nat.le_refl, Int.natCast_zero, Int.toNat_natCast, Int.reduceToNat, hcd]
            repeat' (with_reducible refine And.intro ?_ ?_)
            all_goals try (first | omega | (refine ⟨?_, ?_⟩ <;> omega))
            refine ⟨⟨true, k, nw, out ++ [p.1], p.2⟩, ⟨hdo, l1.trans i2, l2.trans i3, by simp; omega, by rw [if_pos (by omega)]; exact i5, fun h => (by cases h), fun _ => by omega⟩, Nat.lt_succ_self k, .two 36000 700 36001 701 (by decide) (by decide) (by decide) (by decide) ?_⟩
            simp only [if_true]
            simp -dsimp -implicitDefEqProofs only [go_sem, ↓reduceIte, Nat.reduceEqDiff, Nat.reduceLT, Nat.reduceAdd, Nat.reduceMul, Nat.reduceLeDiff, Nat.le_refl, Int.natCast_zero, Int.toNat_natCast, Int.reduceToNat]
            all_goals first | (simp; done) | omega | (exact ⟨rfl, rfl⟩) | (simp [i2, i3]; done) | trace_state
end Go.Vc
