/-
  Contracts: registers that are drawn.
-/
import Derived.Test.YtphhlffifljciaaDrawEvs
set_option linter.unusedVariables false
set_option linter.unusedSimpArgs false
set_option linter.unnecessarySimpa false
namespace Go.Vc
open Go.Proofs
set_option maxRecDepth 100000
attribute [local irreducible] drawEvent
theorem isReg_apply {r : RegM} {e : EvM} (hr : isReg r = true) (he : isEv r e = true) (hc : canEv r e = true) : isReg (applyEv r e) = true := by
  have hin := isEv_in he
  have ht : isTag (tagOf r e) r.roles.length = true := by
    have := hr
    simp only [isReg, Bool.and_eq_true, List.all_eq_true] at this
    exact this.2 _ (List.mem_of_getElem? (tag_get he))
  have hn : isTag (applyTag (tagOf r e) e) r.roles.length = true := by
    simp only [canEv, Bool.and_eq_true, beq_iff_eq] at hc
    have h2 := hc.2
    simp only [isEv, isEvent, Bool.and_eq_true] at he
    simp only [isTag, Bool.and_eq_true] at ht ⊢
    unfold applyTag
    by_cases k0 : e.kind = 0
    · have hp := he.2
      rw [if_pos k0] at hp ⊢
      exact ⟨ht.1, by simpa using hp⟩
    rw [if_neg k0]
    by_cases k2 : e.kind = 2
    · rw [if_pos k2]
      have hs : (tagOf r e).state = 1 := by rw [h2, before, if_pos (.inr k2)]
      have hp := ht.2
      rw [hs] at hp
      exact ⟨ht.1, by simpa using hp⟩
    rw [if_neg k2]
    split
    · exact ⟨ht.1, by simp⟩
    · exact ⟨ht.1, by simp⟩
  simp only [isReg, Bool.and_eq_true, List.all_eq_true] at hr ⊢
  refine ⟨⟨⟨?_, hr.1.1.2⟩, hr.1.2⟩, fun t htm => ?_⟩
  · simpa [applyEv] using hr.1.1.1
  · simp only [applyEv] at htm ⊢
    rcases List.mem_or_eq_of_mem_set htm with h | h
    · exact hr.2 t h
    · rw [h]; exact hn
theorem isReg_num {r : RegM} (h : isReg r = true) : r.tags.length ≤ 20 ∧ 1 ≤ r.roles.length ∧ r.roles.length ≤ 10 := by
  simp only [isReg, Bool.and_eq_true, isIn, decide_eq_true_eq] at h
  omega
theorem isReg_new {rows roles : List Int} (h1 : rows.length ≤ 20) (h2 : ∀ x ∈ rows, 0 ≤ x ∧ x ≤ 9) (h3 : 1 ≤ roles.length ∧ roles.length ≤ 10) (h4 : ∀ x ∈ roles, 0 ≤ x ∧ x ≤ 2) : isReg (newReg rows roles) = true := by
  simp only [isReg, Bool.and_eq_true, List.all_eq_true, newReg, List.length_map, decide_eq_true_eq]
  refine ⟨⟨⟨h1, ?_⟩, fun x hx => ?_⟩, fun t ht => ?_⟩
  · simp [isIn]; omega
  · have := h4 x hx; simp [isIn]; omega
  · obtain ⟨x, hx, rfl⟩ := List.mem_map.1 ht
    have := h2 x hx
    simp [isTag, isIn]; omega
set_option maxHeartbeats 4000000 in
theorem c_l30Start (v : Nat) (bs : List UInt8) (s : Src) (h : SrcOk s) (hl : bs.length ≤ 4096) :
    FnM Try.prog 76 [srcB v bs s] [.ptr 1000000000 v 0 0] (fun x io => ∃ (r : RegM) (s' : Src), SrcOk s' ∧ isReg r = true ∧ x = eReg r ∧ io = [srcB v bs s']) := by
  refine FnM.of_vc 40 [.cell 2 40] Try.func76 rfl rfl rfl rfl rfl (of_decide_eq_true rfl) ?_
  have h1 := nx_ok bs 7 h
  have h2 := h1.2.2.1 (by omega)
  simp -dsimp -implicitDefEqProofs only [go_sem, ↓reduceIte, Nat.reduceEqDiff, Nat.reduceLT, Nat.reduceAdd, Nat.reduceMul, Nat.reduceLeDiff, Nat.le_refl, Int.natCast_zero, Int.toNat_natCast, Int.reduceToNat]
  repeat' (with_reducible refine And.intro ?_ ?_)
  (refine sCallT_io [1000000000] ?_; simp -dsimp -implicitDefEqProofs only [go_sem, ↓reduceIte, Nat.reduceEqDiff, Nat.reduceLT, Nat.reduceAdd, Nat.reduceMul, Nat.reduceLeDiff, Nat.le_refl, Int.natCast_zero, Int.toNat_natCast, Int.reduceToNat]; refine sCallM_one (c_l01Next _ bs 7 _ h hl) ?_; simp -dsimp -implicitDefEqProofs only [go_sem, ↓reduceIte, Nat.reduceEqDiff, Nat.reduceLT, Nat.reduceAdd, Nat.reduceMul, Nat.reduceLeDiff, Nat.le_refl, Int.natCast_zero, Int.toNat_natCast, Int.reduceToNat])
  generalize nx bs 7 s = a at *
  refine Later.lp [0, 2, 4] [19, 20, 21] [9, 1000000000] (fun x : Nat × List Int × Src => SrcOk x.2.2 ∧ x.1 + x.2.1.length ≤ 6 ∧ ∀ y ∈ x.2.1, 0 ≤ y ∧ y ≤ 9)
    (fun x => [(5, eI x.1), (3, .ref 9 0 0 x.2.1.length)]) (fun x => [(9, .row 0 ⟨1, false⟩ true (x.2.1.map eI)), (1000000000, srcB v bs x.2.2)]) (fun x => x.1) (a.1.toNat, [], a.2) ⟨h1.2.2.2, by simp; omega, fun y hy => by cases hy⟩ ?_ rfl (fun x hI => ?_)
  · dsimp only
    rw [show ((a.1.toNat : Nat) : Int) = a.1 by omega]
    simp -dsimp -implicitDefEqProofs only [go_sem, ↓reduceIte, Nat.reduceEqDiff, Nat.reduceLT, Nat.reduceAdd, Nat.reduceMul, Nat.reduceLeDiff, Nat.le_refl, Int.natCast_zero, Int.toNat_natCast, Int.reduceToNat]
  · obtain ⟨k, rows, s⟩ := x
    obtain ⟨q1, q2, q3⟩ := hI
    dsimp only at q1 q2 q3 ⊢
    clear h1 h2 h
    cases k with
    | zero =>
      have hk0 : decide ((0 : Int) > 0) = false := rfl
      have g1 := nx_ok bs 4 q1
      have g2 := g1.2.2.1 (by omega)
      have hcn := fun v => c_l01Next v bs 4 s q1 hl
      generalize nx bs 4 s = b at *
      simp -dsimp -implicitDefEqProofs only [pick_nil, pick_cons, look_nil, look_cons, dropB_nil, dropB_cons, inD_nil, inD_cons, inE_nil, inE_cons, or_t_l, or_f_l, Nat.reduceBEq, Nat.reduceDiv, Nat.reduceAdd, beq_self_eq_true, Bool.false_eq_true, Bool.or_false, ↓reduceIte, Nat.reduceEqDiff, List.cons_append, List.nil_append]
      simp -dsimp -implicitDefEqProofs only [go_sem, ↓reduceIte, Nat.reduceEqDiff, Nat.reduceLT, Nat.reduceAdd, Nat.reduceMul, Nat.reduceLeDiff, Nat.le_refl, Int.natCast_zero, Int.toNat_natCast, Int.reduceToNat, hk0]
      (refine sCallT_io [1000000000] ?_; simp -dsimp -implicitDefEqProofs only [go_sem, ↓reduceIte, Nat.reduceEqDiff, Nat.reduceLT, Nat.reduceAdd, Nat.reduceMul, Nat.reduceLeDiff, Nat.le_refl, Int.natCast_zero, Int.toNat_natCast, Int.reduceToNat]; refine sCallM_one (hcn _) ?_; simp -dsimp -implicitDefEqProofs only [go_sem, ↓reduceIte, Nat.reduceEqDiff, Nat.reduceLT, Nat.reduceAdd, Nat.reduceMul, Nat.reduceLeDiff, Nat.le_refl, Int.natCast_zero, Int.toNat_natCast, Int.reduceToNat])
      refine Later.lp [0, 2, 3] [30, 31, 32] [10, 1000000000] (fun x : Nat × List Int × Src => SrcOk x.2.2 ∧ x.1 + x.2.1.length ≤ 4 ∧ 1 ≤ x.2.1.length ∧ ∀ y ∈ x.2.1, 0 ≤ y ∧ y ≤ 2)
        (fun x => [(6, eI x.1), (4, .ref 10 0 0 x.2.1.length)]) (fun x => [(10, .row 0 ⟨1, false⟩ true (x.2.1.map eI)), (1000000000, srcB v bs x.2.2)]) (fun x => x.1) (b.1.toNat, [2], b.2) ⟨g1.2.2.2, by simp; omega, by simp, fun y hy => by simp at hy; omega⟩ ?_ rfl (fun x hI => ?_)
      · dsimp only
        rw [show ((b.1.toNat : Nat) : Int) = b.1 by omega]
        simp -dsimp -implicitDefEqProofs only [go_sem, ↓reduceIte, Nat.reduceEqDiff, Nat.reduceLT, Nat.reduceAdd, Nat.reduceMul, Nat.reduceLeDiff, Nat.le_refl, Int.natCast_zero, Int.toNat_natCast, Int.reduceToNat]
        all_goals (first | omega | (rw [List.take_of_length_le (by simp)]; simp; done) | (refine ⟨?_, ?_⟩ <;> omega) | (exact rfl) | (simp; done) | (simp [*]; done) | trace_state)
      · obtain ⟨k, roles, s⟩ := x
        obtain ⟨p1, p2, p4, p3⟩ := hI
        dsimp only at p1 p2 p3 p4 ⊢
        clear g1 g2 hcn q1
        cases k with
        | zero =>
          have hk0 : decide ((0 : Int) > 0) = false := rfl
          have hreg := isReg_new (rows := rows) (roles := roles) (by omega) q3 (by omega) p3
          have hnew : newRegister rows roles = (newReg rows roles, 0) := by rw [newRegister, if_pos hreg]
          have hc := c_sNewRegister rows roles (by omega) (by omega)
          rw [hnew] at hc
          simp -dsimp -implicitDefEqProofs only [pick_nil, pick_cons, look_nil, look_cons, dropB_nil, dropB_cons, inD_nil, inD_cons, inE_nil, inE_cons, or_t_l, or_f_l, Nat.reduceBEq, Nat.reduceDiv, Nat.reduceAdd, beq_self_eq_true, Bool.false_eq_true, Bool.or_false, ↓reduceIte, Nat.reduceEqDiff, List.cons_append, List.nil_append]
          simp -dsimp -implicitDefEqProofs only [go_sem, ↓reduceIte, Nat.reduceEqDiff, Nat.reduceLT, Nat.reduceAdd, Nat.reduceMul, Nat.reduceLeDiff, Nat.le_refl, Int.natCast_zero, Int.toNat_natCast, Int.reduceToNat, hk0]
          (refine sCallT_one (hc) ?_; try simp -dsimp -implicitDefEqProofs only [go_sem, ↓reduceIte, Nat.reduceEqDiff, Nat.reduceLT, Nat.reduceAdd, Nat.reduceMul, Nat.reduceLeDiff, Nat.le_refl, Int.natCast_zero, Int.toNat_natCast, Int.reduceToNat, *])
          exact ⟨by simp, by simp, _, _, p1, hreg, rfl, rfl⟩
        | succ k =>
          have hk0 : decide (((k + 1 : Nat) : Int) > 0) = true := decide_eq_true (by omega)
          have g1 := nx_ok bs 3 p1
          have g2 := g1.2.2.1 (by omega)
          have hcn := fun v => c_l01Next v bs 3 s p1 hl
          generalize nx bs 3 s = c at *
          simp -dsimp -implicitDefEqProofs only [pick_nil, pick_cons, look_nil, look_cons, dropB_nil, dropB_cons, inD_nil, inD_cons, inE_nil, inE_cons, or_t_l, or_f_l, Nat.reduceBEq, Nat.reduceDiv, Nat.reduceAdd, beq_self_eq_true, Bool.false_eq_true, Bool.or_false, ↓reduceIte, Nat.reduceEqDiff, List.cons_append, List.nil_append]
          simp -dsimp -implicitDefEqProofs only [go_sem, ↓reduceIte, Nat.reduceEqDiff, Nat.reduceLT, Nat.reduceAdd, Nat.reduceMul, Nat.reduceLeDiff, Nat.le_refl, Int.natCast_zero, Int.toNat_natCast, Int.reduceToNat, hk0]
          (refine sCallT_io [1000000000] ?_; simp -dsimp -implicitDefEqProofs only [go_sem, ↓reduceIte, Nat.reduceEqDiff, Nat.reduceLT, Nat.reduceAdd, Nat.reduceMul, Nat.reduceLeDiff, Nat.le_refl, Int.natCast_zero, Int.toNat_natCast, Int.reduceToNat]; refine sCallM_one (hcn _) ?_; simp -dsimp -implicitDefEqProofs only [go_sem, ↓reduceIte, Nat.reduceEqDiff, Nat.reduceLT, Nat.reduceAdd, Nat.reduceMul, Nat.reduceLeDiff, Nat.le_refl, Int.natCast_zero, Int.toNat_natCast, Int.reduceToNat])
          repeat' (with_reducible refine And.intro ?_ ?_)
          all_goals try (first | omega | (refine ⟨?_, ?_⟩ <;> omega) | (simp; done))
          refine ⟨(k, roles ++ [c.1], c.2), ⟨g1.2.2.2, by simp; omega, by simp, fun y hy => ?_⟩, Nat.lt_succ_self k, ?_⟩
          · rcases List.mem_append.1 hy with hy | hy
            · exact p3 y hy
            · rw [List.mem_singleton] at hy; subst hy; omega
          · simp -dsimp -implicitDefEqProofs only [go_sem, ↓reduceIte, Nat.reduceEqDiff, Nat.reduceLT, Nat.reduceAdd, Nat.reduceMul, Nat.reduceLeDiff, Nat.le_refl, Int.natCast_zero, Int.toNat_natCast, Int.reduceToNat]
            all_goals (first | omega | (rw [List.take_of_length_le (by simp)]; simp; done) | (refine ⟨?_, ?_⟩ <;> omega) | (exact rfl) | (simp; done) | (simp [*]; done) | trace_state)
    | succ k =>
      have hk0 : decide (((k + 1 : Nat) : Int) > 0) = true := decide_eq_true (by omega)
      have g1 := nx_ok bs 4 q1
      have g2 := g1.2.2.1 (by omega)
      have hcn := fun v => c_l01Next v bs 4 s q1 hl
      generalize nx bs 4 s = c at *
      simp -dsimp -implicitDefEqProofs only [pick_nil, pick_cons, look_nil, look_cons, dropB_nil, dropB_cons, inD_nil, inD_cons, inE_nil, inE_cons, or_t_l, or_f_l, Nat.reduceBEq, Nat.reduceDiv, Nat.reduceAdd, beq_self_eq_true, Bool.false_eq_true, Bool.or_false, ↓reduceIte, Nat.reduceEqDiff, List.cons_append, List.nil_append]
      simp -dsimp -implicitDefEqProofs only [go_sem, ↓reduceIte, Nat.reduceEqDiff, Nat.reduceLT, Nat.reduceAdd, Nat.reduceMul, Nat.reduceLeDiff, Nat.le_refl, Int.natCast_zero, Int.toNat_natCast, Int.reduceToNat, hk0]
      (refine sCallT_io [1000000000] ?_; simp -dsimp -implicitDefEqProofs only [go_sem, ↓reduceIte, Nat.reduceEqDiff, Nat.reduceLT, Nat.reduceAdd, Nat.reduceMul, Nat.reduceLeDiff, Nat.le_refl, Int.natCast_zero, Int.toNat_natCast, Int.reduceToNat]; refine sCallM_one (hcn _) ?_; simp -dsimp -implicitDefEqProofs only [go_sem, ↓reduceIte, Nat.reduceEqDiff, Nat.reduceLT, Nat.reduceAdd, Nat.reduceMul, Nat.reduceLeDiff, Nat.le_refl, Int.natCast_zero, Int.toNat_natCast, Int.reduceToNat])
      repeat' (with_reducible refine And.intro ?_ ?_)
      all_goals try (first | omega | (refine ⟨?_, ?_⟩ <;> omega) | (simp; done))
      refine ⟨(k, rows ++ [c.1], c.2), ⟨g1.2.2.2, by simp; omega, fun y hy => ?_⟩, Nat.lt_succ_self k, ?_⟩
      · rcases List.mem_append.1 hy with hy | hy
        · exact q3 y hy
        · rw [List.mem_singleton] at hy; subst hy; omega
      · simp -dsimp -implicitDefEqProofs only [go_sem, ↓reduceIte, Nat.reduceEqDiff, Nat.reduceLT, Nat.reduceAdd, Nat.reduceMul, Nat.reduceLeDiff, Nat.le_refl, Int.natCast_zero, Int.toNat_natCast, Int.reduceToNat]
        all_goals (first | omega | (rw [List.take_of_length_le (by simp)]; simp; done) | (refine ⟨?_, ?_⟩ <;> omega) | (exact rfl) | (simp; done) | (simp [*]; done) | trace_state)
set_option maxHeartbeats 8000000 in
theorem c_l30Draw (v : Nat) (bs : List UInt8) (s : Src) (h : SrcOk s) (hl : bs.length ≤ 4096) :
    FnM Try.prog 58 [srcB v bs s] [.ptr 1000000000 v 0 0] (fun x io => ∃ (r : RegM) (s' : Src), SrcOk s' ∧ r.tags.length ≤ 21 ∧ r.roles.length ≤ 10 ∧ x = eReg r ∧ io = [srcB v bs s']) := by
  refine FnM.nil ?_
  refine FnM.of_vc 73 [.cell 2 40] Try.func58 rfl rfl rfl rfl rfl (of_decide_eq_true rfl) ?_
  simp -dsimp -implicitDefEqProofs only [go_sem, ↓reduceIte, Nat.reduceEqDiff, Nat.reduceLT, Nat.reduceAdd, Nat.reduceMul, Nat.reduceLeDiff, Nat.le_refl, Int.natCast_zero, Int.toNat_natCast, Int.reduceToNat]
  repeat' (with_reducible refine And.intro ?_ ?_)
  refine sCallT_io [1000000000] ?_
  simp -dsimp -implicitDefEqProofs only [go_sem, ↓reduceIte, Nat.reduceEqDiff, Nat.reduceLT, Nat.reduceAdd, Nat.reduceMul, Nat.reduceLeDiff, Nat.le_refl, Int.natCast_zero, Int.toNat_natCast, Int.reduceToNat]
  refine sCallM_any (c_l30Start _ bs s h hl) ?_
  rintro _ _ ⟨r, s1, o1, hr, rfl, rfl⟩
  have hn := isReg_num hr
  simp -dsimp -implicitDefEqProofs only [go_sem, ↓reduceIte, Nat.reduceEqDiff, Nat.reduceLT, Nat.reduceAdd, Nat.reduceMul, Nat.reduceLeDiff, Nat.le_refl, Int.natCast_zero, Int.toNat_natCast, Int.reduceToNat]
  refine sCallT_io [1000000000, 10000, 10001] ?_
  simp -dsimp -implicitDefEqProofs only [go_sem, ↓reduceIte, Nat.reduceEqDiff, Nat.reduceLT, Nat.reduceAdd, Nat.reduceMul, Nat.reduceLeDiff, Nat.le_refl, Int.natCast_zero, Int.toNat_natCast, Int.reduceToNat]
  refine sCallM_one (c_l30DrawEvents _ _ _ bs r s1 o1 hl (by omega) (by omega)) ?_
  have hd := drawEvents_ok bs r o1
  generalize drawEvents bs r s1 = ev at *
  obtain ⟨es, s2⟩ := ev
  dsimp only at hd ⊢
  obtain ⟨o2, hel⟩ := hd
  clear h o1
  simp -dsimp -implicitDefEqProofs only [go_sem, ↓reduceIte, Nat.reduceEqDiff, Nat.reduceLT, Nat.reduceAdd, Nat.reduceMul, Nat.reduceLeDiff, Nat.le_refl, Int.natCast_zero, Int.toNat_natCast, Int.reduceToNat]
  refine Later.lpR [0, 2, 3, 4] [6, 15, 25] [3, 10000, 10001, 26000, 26001] (fun x : Nat × RegM => x.1 ≤ es.length ∧ isReg x.2 = true) (fun x => [(5, eI x.1)])
    (fun x => [(3, .box 0 [.ref 10000 0 0 x.2.tags.length, .ref 10001 0 0 x.2.roles.length]), (10000, .row 0 ⟨3, true⟩ true (x.2.tags.map eTag)), (10001, .row 0 ⟨1, false⟩ true (x.2.roles.map eI))])
    (fun x => es.length - x.1) (0, r) ⟨Nat.zero_le _, hr⟩ (.here ?_) rfl (fun x hI => ?_)
  · simp -dsimp -implicitDefEqProofs only [go_sem, ↓reduceIte, Nat.reduceEqDiff, Nat.reduceLT, Nat.reduceAdd, Nat.reduceMul, Nat.reduceLeDiff, Nat.le_refl, Int.natCast_zero, Int.toNat_natCast, Int.reduceToNat]
  · obtain ⟨i, r⟩ := x
    obtain ⟨i1, i2⟩ := hI
    dsimp only at i1 i2 ⊢
    clear hr hn
    have hn := isReg_num i2
    by_cases hi : i < es.length
    · have li := lt_len hi
      have gi := get_some hi
      have hca := c_sApplyEvent r es[i] (by omega) (by omega)
      have hna : (applyEvent r es[i]).2 = 0 → isReg (applyEvent r es[i]).1 = true := fun h => by
        obtain ⟨_, _, a3, a4, a5, a6⟩ := applyEvent_len r es[i] h
        rw [a3]; exact isReg_apply a4 a5 a6
      generalize applyEvent r es[i] = q at *
      simp -dsimp -implicitDefEqProofs only [pick_nil, pick_cons, look_nil, look_cons, dropB_nil, dropB_cons, inD_nil, inD_cons, inE_nil, inE_cons, or_t_l, or_f_l, Nat.reduceBEq, Nat.reduceDiv, Nat.reduceAdd, beq_self_eq_true, Bool.false_eq_true, Bool.or_false, ↓reduceIte, Nat.reduceEqDiff, List.cons_append, List.nil_append]
      simp -dsimp -implicitDefEqProofs only [go_sem, ↓reduceIte, Nat.reduceEqDiff, Nat.reduceLT, Nat.reduceAdd, Nat.reduceMul, Nat.reduceLeDiff, Nat.le_refl, Int.natCast_zero, Int.toNat_natCast, Int.reduceToNat, li]
      refine Later.draw mixed rfl ?_
      simp -dsimp -implicitDefEqProofs only [go_sem, ↓reduceIte, Nat.reduceEqDiff, Nat.reduceLT, Nat.reduceAdd, Nat.reduceMul, Nat.reduceLeDiff, Nat.le_refl, Int.natCast_zero, Int.toNat_natCast, Int.reduceToNat, gi]
      repeat' (with_reducible refine And.intro ?_ ?_)
      all_goals try (first | omega | (refine ⟨?_, ?_⟩ <;> omega))
      refine sCallX_one hca ?_
      simp -dsimp -implicitDefEqProofs only [go_sem, ↓reduceIte, Nat.reduceEqDiff, Nat.reduceLT, Nat.reduceAdd, Nat.reduceMul, Nat.reduceLeDiff, Nat.le_refl, Int.natCast_zero, Int.toNat_natCast, Int.reduceToNat]
      repeat' (with_reducible refine And.intro ?_ ?_)
      all_goals try (exact rfl)
      rcases hq : (q.2 == 0) with _ | _
      · simp -dsimp -implicitDefEqProofs only [go_sem, ↓reduceIte, Nat.reduceEqDiff, Nat.reduceLT, Nat.reduceAdd, Nat.reduceMul, Nat.reduceLeDiff, Nat.le_refl, Int.natCast_zero, Int.toNat_natCast, Int.reduceToNat, hq]
        repeat' (with_reducible refine And.intro ?_ ?_)
        all_goals try (first | omega | (refine ⟨?_, ?_⟩ <;> omega))
        refine ⟨(i + 1, r), ⟨hi, i2⟩, by dsimp only; omega, .here ?_⟩
        simp -dsimp -implicitDefEqProofs only [go_sem, ↓reduceIte, Nat.reduceEqDiff, Nat.reduceLT, Nat.reduceAdd, Nat.reduceMul, Nat.reduceLeDiff, Nat.le_refl, Int.natCast_zero, Int.toNat_natCast, Int.reduceToNat]
        all_goals (first | omega | (rw [List.take_of_length_le (by simp)]; simp; done) | (refine ⟨?_, ?_⟩ <;> omega) | (exact rfl) | (simp; done) | (simp [*]; done) | trace_state)
      · simp -dsimp -implicitDefEqProofs only [go_sem, ↓reduceIte, Nat.reduceEqDiff, Nat.reduceLT, Nat.reduceAdd, Nat.reduceMul, Nat.reduceLeDiff, Nat.le_refl, Int.natCast_zero, Int.toNat_natCast, Int.reduceToNat, hq]
        repeat' (with_reducible refine And.intro ?_ ?_)
        all_goals try (first | omega | (refine ⟨?_, ?_⟩ <;> omega))
        refine ⟨(i + 1, q.1), ⟨hi, hna (by simpa using hq)⟩, by dsimp only; omega, .two 26000 10000 26001 10001 (by decide) (by decide) (by decide) (by decide) ?_⟩
        simp -dsimp -implicitDefEqProofs only [go_sem, ↓reduceIte, Nat.reduceEqDiff, Nat.reduceLT, Nat.reduceAdd, Nat.reduceMul, Nat.reduceLeDiff, Nat.le_refl, Int.natCast_zero, Int.toNat_natCast, Int.reduceToNat]
        all_goals (first | omega | (rw [List.take_of_length_le (by simp)]; simp; done) | (refine ⟨?_, ?_⟩ <;> omega) | (exact rfl) | (simp; done) | (simp [*]; done) | trace_state)
    · have e : i = es.length := by omega
      subst e
      clear hi i1
      have h1 := nx_ok bs 30 o2
      have hcn := fun v => c_l01Next v bs 30 s2 o2 hl
      generalize nx bs 30 s2 = z at *
      have o3 := h1.2.2.2
      simp -dsimp -implicitDefEqProofs only [pick_nil, pick_cons, look_nil, look_cons, dropB_nil, dropB_cons, inD_nil, inD_cons, inE_nil, inE_cons, or_t_l, or_f_l, Nat.reduceBEq, Nat.reduceDiv, Nat.reduceAdd, beq_self_eq_true, Bool.false_eq_true, Bool.or_false, ↓reduceIte, Nat.reduceEqDiff, List.cons_append, List.nil_append]
      simp -dsimp -implicitDefEqProofs only [go_sem, ↓reduceIte, Nat.reduceEqDiff, Nat.reduceLT, Nat.reduceAdd, Nat.reduceMul, Nat.reduceLeDiff, Nat.le_refl, Int.natCast_zero, Int.toNat_natCast, Int.reduceToNat, nlt_len]
      (refine sCallT_io [1000000000] ?_; simp -dsimp -implicitDefEqProofs only [go_sem, ↓reduceIte, Nat.reduceEqDiff, Nat.reduceLT, Nat.reduceAdd, Nat.reduceMul, Nat.reduceLeDiff, Nat.le_refl, Int.natCast_zero, Int.toNat_natCast, Int.reduceToNat]; refine sCallM_one (hcn _) ?_; simp -dsimp -implicitDefEqProofs only [go_sem, ↓reduceIte, Nat.reduceEqDiff, Nat.reduceLT, Nat.reduceAdd, Nat.reduceMul, Nat.reduceLeDiff, Nat.le_refl, Int.natCast_zero, Int.toNat_natCast, Int.reduceToNat])
      clear hcn h1
      rcases z0 : (z.1 == 0) with _ | _
      · rcases z1 : (z.1 == 1) with _ | _
        · rcases z2 : (z.1 == 2) with _ | _
          · rcases z3 : (z.1 == 3) with _ | _
            · simp -dsimp -implicitDefEqProofs only [go_sem, ↓reduceIte, Nat.reduceEqDiff, Nat.reduceLT, Nat.reduceAdd, Nat.reduceMul, Nat.reduceLeDiff, Nat.le_refl, Int.natCast_zero, Int.toNat_natCast, Int.reduceToNat, z0, z1, z2, z3]
              refine ⟨by simp, by simp, eReg r, ?_, r, z.2, o3, by omega, by omega, rfl, rfl⟩
              simp -dsimp -implicitDefEqProofs only [go_sem, ↓reduceIte, Nat.reduceEqDiff, Nat.reduceLT, Nat.reduceAdd, Nat.reduceMul, Nat.reduceLeDiff, Nat.le_refl, Int.natCast_zero, Int.toNat_natCast, Int.reduceToNat]
              all_goals (first | omega | (rw [List.take_of_length_le (by simp)]; simp; done) | (refine ⟨?_, ?_⟩ <;> omega) | (exact rfl) | (simp; done) | (simp [*]; done) | trace_state)
            · simp -dsimp -implicitDefEqProofs only [go_sem, ↓reduceIte, Nat.reduceEqDiff, Nat.reduceLT, Nat.reduceAdd, Nat.reduceMul, Nat.reduceLeDiff, Nat.le_refl, Int.natCast_zero, Int.toNat_natCast, Int.reduceToNat, z0, z1, z2, z3]
              have h1 := pk_ok bs [-1, 0, 9, 10] o3
              have h2 := (nx_ok bs 5 h1).2.2.2
              have h3 := pk_ok bs [-1, 0, 9] h2
              have c1 := fun v v2 d ys hy => c_l01Pick v v2 d bs [-1, 0, 9, 10] ys z.2 hy (by decide) (by decide) o3 hl
              have c2 := fun v => c_l01Next v bs 5 _ h1 hl
              have c3 := fun v v2 d ys hy => c_l01Pick v v2 d bs [-1, 0, 9] ys _ hy (by decide) (by decide) h2 hl
              generalize pk bs [-1, 0, 9, 10] z.2 = a at *
              generalize nx bs 5 a.2 = b at *
              generalize pk bs [-1, 0, 9] b.2 = c at *
              refine Later.draw mixed rfl ?_
              simp -dsimp -implicitDefEqProofs only [go_sem, ↓reduceIte, Nat.reduceEqDiff, Nat.reduceLT, Nat.reduceAdd, Nat.reduceMul, Nat.reduceLeDiff, Nat.le_refl, Int.natCast_zero, Int.toNat_natCast, Int.reduceToNat]
              repeat' (with_reducible refine And.intro ?_ ?_)
              all_goals try (first | omega | (refine ⟨?_, ?_⟩ <;> omega))
              (refine sCallX_io [1000000000, 59] rfl ?_; simp -dsimp -implicitDefEqProofs only [go_sem, ↓reduceIte, Nat.reduceEqDiff, Nat.reduceLT, Nat.reduceAdd, Nat.reduceMul, Nat.reduceLeDiff, Nat.le_refl, Int.natCast_zero, Int.toNat_natCast, Int.reduceToNat]; refine sCallMX_one (c1 _ _ _ _ rfl) ?_; simp -dsimp -implicitDefEqProofs only [go_sem, ↓reduceIte, Nat.reduceEqDiff, Nat.reduceLT, Nat.reduceAdd, Nat.reduceMul, Nat.reduceLeDiff, Nat.le_refl, Int.natCast_zero, Int.toNat_natCast, Int.reduceToNat])
              (refine sCallX_io [1000000000] rfl ?_; simp -dsimp -implicitDefEqProofs only [go_sem, ↓reduceIte, Nat.reduceEqDiff, Nat.reduceLT, Nat.reduceAdd, Nat.reduceMul, Nat.reduceLeDiff, Nat.le_refl, Int.natCast_zero, Int.toNat_natCast, Int.reduceToNat]; refine sCallMX_one (c2 _) ?_; simp -dsimp -implicitDefEqProofs only [go_sem, ↓reduceIte, Nat.reduceEqDiff, Nat.reduceLT, Nat.reduceAdd, Nat.reduceMul, Nat.reduceLeDiff, Nat.le_refl, Int.natCast_zero, Int.toNat_natCast, Int.reduceToNat])
              (refine sCallX_io [1000000000, 64] rfl ?_; simp -dsimp -implicitDefEqProofs only [go_sem, ↓reduceIte, Nat.reduceEqDiff, Nat.reduceLT, Nat.reduceAdd, Nat.reduceMul, Nat.reduceLeDiff, Nat.le_refl, Int.natCast_zero, Int.toNat_natCast, Int.reduceToNat]; refine sCallMX_one (c3 _ _ _ _ rfl) ?_; simp -dsimp -implicitDefEqProofs only [go_sem, ↓reduceIte, Nat.reduceEqDiff, Nat.reduceLT, Nat.reduceAdd, Nat.reduceMul, Nat.reduceLeDiff, Nat.le_refl, Int.natCast_zero, Int.toNat_natCast, Int.reduceToNat])
              clear c1 c2 c3
              repeat' (with_reducible refine And.intro ?_ ?_)
              all_goals try (first | omega | (refine ⟨?_, ?_⟩ <;> omega) | (exact rfl) | (simp; done))
              refine ⟨eReg ⟨r.tags ++ [⟨a.1, b.1, c.1⟩], r.roles⟩, ?_, ⟨r.tags ++ [⟨a.1, b.1, c.1⟩], r.roles⟩, c.2, h3, by simp; omega, by dsimp only; omega, rfl, rfl⟩
              simp -dsimp -implicitDefEqProofs only [go_sem, ↓reduceIte, Nat.reduceEqDiff, Nat.reduceLT, Nat.reduceAdd, Nat.reduceMul, Nat.reduceLeDiff, Nat.le_refl, Int.natCast_zero, Int.toNat_natCast, Int.reduceToNat]
              all_goals (first | omega | (rw [List.take_of_length_le (by simp)]; simp; done) | (refine ⟨?_, ?_⟩ <;> omega) | (exact rfl) | (simp; done) | (simp [*]; done) | trace_state)
          · simp -dsimp -implicitDefEqProofs only [go_sem, ↓reduceIte, Nat.reduceEqDiff, Nat.reduceLT, Nat.reduceAdd, Nat.reduceMul, Nat.reduceLeDiff, Nat.le_refl, Int.natCast_zero, Int.toNat_natCast, Int.reduceToNat, z0, z1, z2]
            refine Later.draw mixed rfl ?_
            simp -dsimp -implicitDefEqProofs only [go_sem, ↓reduceIte, Nat.reduceEqDiff, Nat.reduceLT, Nat.reduceAdd, Nat.reduceMul, Nat.reduceLeDiff, Nat.le_refl, Int.natCast_zero, Int.toNat_natCast, Int.reduceToNat]
            repeat' (with_reducible refine And.intro ?_ ?_)
            all_goals try (first | omega | (refine ⟨?_, ?_⟩ <;> omega) | (exact rfl) | (simp; done))
            refine ⟨eReg ⟨List.replicate 21 ⟨0, 0, 0⟩, r.roles⟩, ?_, ⟨List.replicate 21 ⟨0, 0, 0⟩, r.roles⟩, z.2, o3, by simp, by dsimp only; omega, rfl, rfl⟩
            simp -dsimp -implicitDefEqProofs only [go_sem, ↓reduceIte, Nat.reduceEqDiff, Nat.reduceLT, Nat.reduceAdd, Nat.reduceMul, Nat.reduceLeDiff, Nat.le_refl, Int.natCast_zero, Int.toNat_natCast, Int.reduceToNat]
            all_goals (first | omega | (rw [List.take_of_length_le (by simp)]; simp; done) | (refine ⟨?_, ?_⟩ <;> omega) | (exact rfl) | (simp; done) | (simp [*]; done) | trace_state)
        · simp -dsimp -implicitDefEqProofs only [go_sem, ↓reduceIte, Nat.reduceEqDiff, Nat.reduceLT, Nat.reduceAdd, Nat.reduceMul, Nat.reduceLeDiff, Nat.le_refl, Int.natCast_zero, Int.toNat_natCast, Int.reduceToNat, z0, z1]
          refine ⟨by simp, eReg ⟨r.tags, []⟩, ?_, ⟨r.tags, []⟩, z.2, o3, by dsimp only; omega, by simp, rfl, rfl⟩
          simp -dsimp -implicitDefEqProofs only [go_sem, ↓reduceIte, Nat.reduceEqDiff, Nat.reduceLT, Nat.reduceAdd, Nat.reduceMul, Nat.reduceLeDiff, Nat.le_refl, Int.natCast_zero, Int.toNat_natCast, Int.reduceToNat]
          all_goals (first | omega | (rw [List.take_of_length_le (by simp)]; simp; done) | (refine ⟨?_, ?_⟩ <;> omega) | (exact rfl) | (simp; done) | (simp [*]; done) | trace_state)
      · simp -dsimp -implicitDefEqProofs only [go_sem, ↓reduceIte, Nat.reduceEqDiff, Nat.reduceLT, Nat.reduceAdd, Nat.reduceMul, Nat.reduceLeDiff, Nat.le_refl, Int.natCast_zero, Int.toNat_natCast, Int.reduceToNat, z0]
        have h1 := pk_ok bs [-1, 3] o3
        have c1 := fun v v2 d ys hy => c_l01Pick v v2 d bs [-1, 3] ys z.2 hy (by decide) (by decide) o3 hl
        generalize pk bs [-1, 3] z.2 = a at *
        have g0 : r.roles[0]? = some (r.roles[0]'(by omega)) := get_some _
        refine Later.draw mixed rfl ?_
        simp -dsimp -implicitDefEqProofs only [go_sem, ↓reduceIte, Nat.reduceEqDiff, Nat.reduceLT, Nat.reduceAdd, Nat.reduceMul, Nat.reduceLeDiff, Nat.le_refl, Int.natCast_zero, Int.toNat_natCast, Int.reduceToNat]
        repeat' (with_reducible refine And.intro ?_ ?_)
        all_goals try (first | omega | (refine ⟨?_, ?_⟩ <;> omega))
        (refine sCallX_io [1000000000, 38] rfl ?_; simp -dsimp -implicitDefEqProofs only [go_sem, ↓reduceIte, Nat.reduceEqDiff, Nat.reduceLT, Nat.reduceAdd, Nat.reduceMul, Nat.reduceLeDiff, Nat.le_refl, Int.natCast_zero, Int.toNat_natCast, Int.reduceToNat]; refine sCallMX_one (c1 _ _ _ _ rfl) ?_; simp -dsimp -implicitDefEqProofs only [go_sem, ↓reduceIte, Nat.reduceEqDiff, Nat.reduceLT, Nat.reduceAdd, Nat.reduceMul, Nat.reduceLeDiff, Nat.le_refl, Int.natCast_zero, Int.toNat_natCast, Int.reduceToNat])
        clear c1
        repeat' (with_reducible refine And.intro ?_ ?_)
        all_goals try (first | omega | (refine ⟨?_, ?_⟩ <;> omega) | (exact rfl) | (simp; done))
        simp -dsimp -implicitDefEqProofs only [go_sem, ↓reduceIte, Nat.reduceEqDiff, Nat.reduceLT, Nat.reduceAdd, Nat.reduceMul, Nat.reduceLeDiff, Nat.le_refl, Int.natCast_zero, Int.toNat_natCast, Int.reduceToNat, g0]
        repeat' (with_reducible refine And.intro ?_ ?_)
        all_goals try (first | omega | (refine ⟨?_, ?_⟩ <;> omega) | (exact rfl) | (simp; done))
        refine ⟨eReg ⟨r.tags, r.roles.set 0 a.1⟩, ?_, ⟨r.tags, r.roles.set 0 a.1⟩, a.2, h1, by dsimp only; omega, by simp; omega, rfl, rfl⟩
        simp -dsimp -implicitDefEqProofs only [go_sem, ↓reduceIte, Nat.reduceEqDiff, Nat.reduceLT, Nat.reduceAdd, Nat.reduceMul, Nat.reduceLeDiff, Nat.le_refl, Int.natCast_zero, Int.toNat_natCast, Int.reduceToNat]
        all_goals (first | omega | (rw [List.take_of_length_le (by simp)]; simp; done) | (refine ⟨?_, ?_⟩ <;> omega) | (exact rfl) | (simp; done) | (simp [*]; done) | trace_state)
end Go.Vc
