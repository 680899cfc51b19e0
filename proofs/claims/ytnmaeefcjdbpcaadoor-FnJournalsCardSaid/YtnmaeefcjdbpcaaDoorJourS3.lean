/-
  Contracts: journals, as the reference recovers them.
-/
import Derived.Test.YtnmaeefcjdbpcaaDoorJourS2
set_option linter.unusedVariables false
set_option linter.unusedSimpArgs false
set_option linter.unnecessarySimpa false
namespace Go.Vc
open Go.Proofs Go.Lib
set_option maxRecDepth 100000
theorem valD_in (s : List UInt8) : 0 ≤ (valD s).1 ∧ (valD s).1 ≤ 10000000000000 := by
  unfold valD
  split
  · simp
  · rename_i h
    split
    · rename_i h2
      have h3 := dval_lt s 0 (fun c hc => by have := List.all_eq_true.1 h2 c hc; simpa using this)
      have h4 := pow13 (n := s.length) (by omega)
      rw [Nat.zero_add, Nat.one_mul] at h3
      dsimp only
      omega
    · simp
theorem lineE_D (l : List UInt8) : EvD (lineE l).1 := by
  unfold lineE
  have hv : ∀ i w, -1 ≤ (valP i w).1 ∧ (valP i w).1 ≤ 10000000000000 ∧ (i ≠ 3 → 0 ≤ (valP i w).1) := by
    intro i w
    have := valD_in w
    unfold valP
    split
    · rename_i h; exact ⟨by simp, by simp, fun q => absurd h.1 q⟩
    · omega
  split
  · have h1 := hv 1 ((spl 44 (headOf l)).getD 1 [])
    have h2 := hv 2 ((spl 44 (headOf l)).getD 2 [])
    have h3 := hv 3 ((spl 44 (headOf l)).getD 3 [])
    have h4 := hv 4 ((spl 44 (headOf l)).getD 4 [])
    exact ⟨⟨h1.2.2 (by decide), by have := h1.2.1; dsimp only; omega⟩, ⟨h2.2.2 (by decide), by have := h2.2.1; dsimp only; omega⟩, ⟨h3.1, by have := h3.2.1; dsimp only; omega⟩, ⟨h4.2.2 (by decide), by have := h4.2.1; dsimp only; omega⟩⟩
  · unfold EvD; simp
theorem pre_iff {a r l : List UInt8} : l <+: r ↔ (a ++ l).length ≤ (a ++ r).length ∧ (a ++ r).take (a ++ l).length = a ++ l := by
  constructor
  · rintro ⟨q, rfl⟩
    refine ⟨by simp, ?_⟩
    rw [← List.append_assoc, List.take_left]
  · rintro ⟨_, h⟩
    have h2 : a ++ l <+: a ++ r := by rw [← h]; exact List.take_prefix _ _
    exact (List.prefix_append_right_inj a).1 h2
set_option maxHeartbeats 4000000 in
theorem c_l31Recover (t : List UInt8) (h : t.length ≤ 1048575) : Fn Tryd.prog 65 [eS t] true (· = .tup [eEvs (readJ t).1, eI ((t.length - (readJ t).2.1.length : Nat) : Int)]) := by
  refine Fn.of_vcN 64 [.tmp 2, .tmp 3] Tryd.func65 rfl rfl rfl rfl rfl (of_decide_eq_true rfl) ?_
  obtain ⟨a, ha⟩ : ∃ a, readJ t = a := ⟨_, rfl⟩
  rw [ha]
  unfold readJ at ha
  obtain ⟨lines, hls⟩ : ∃ ls, spl 10 t = ls := ⟨_, rfl⟩
  have hcs := c_l01Split t 10 (by omega)
  have hpl := spl_part_len 10 t
  have hslen := spl_length_le 10 t
  rw [hls] at hcs hpl hslen
  simp -dsimp -implicitDefEqProofs only [go_sem, ↓reduceIte, Nat.reduceEqDiff, Nat.reduceLT, Nat.reduceAdd, Nat.reduceMul, Nat.reduceLeDiff, Nat.le_refl, Int.natCast_zero, Int.toNat_natCast, Int.reduceToNat]
  refine sCallT_one hcs ?_
  simp -dsimp -implicitDefEqProofs only [go_sem, ↓reduceIte, Nat.reduceEqDiff, Nat.reduceLT, Nat.reduceAdd, Nat.reduceMul, Nat.reduceLeDiff, Nat.le_refl, Int.natCast_zero, Int.toNat_natCast, Int.reduceToNat]
  refine Later.lpR [0, 4] [7, 17, 21, 31, 34, 36, 38, 39, 41, 46, 48, 54] [13, 34, 700] (fun x : JSt => JInv t x.es x.r x.c ∧ x.es.length ≤ 60 ∧ recJ (60 - x.es.length) x.es x.r x.c = a)
    (fun x => [(5, .ref 700 0 0 x.es.length), (6, eI x.es.length)]) (fun x => [(700, .row 0 ⟨4, true⟩ true (x.es.map eEv))]) (fun x => 60 - x.es.length) ⟨[], t, 1⟩ ⟨JInv.start t, by simp, ha⟩ (.one 13 700 (by decide) (by decide) ?_) rfl (fun x hI => ?_)
  · simp -dsimp -implicitDefEqProofs only [go_sem, ↓reduceIte, Nat.reduceEqDiff, Nat.reduceLT, Nat.reduceAdd, Nat.reduceMul, Nat.reduceLeDiff, Nat.le_refl, Int.natCast_zero, Int.toNat_natCast, Int.reduceToNat]
  · obtain ⟨es, r, c⟩ := x
    obtain ⟨i1, i2, i3⟩ := hI
    dsimp only at i1 i2 i3 ⊢
    have hlen : t.length = (jT 1 0 es).length + r.length := by rw [i1.txt, List.length_append]
    have hc := jC_in es 1 0 (by omega)
    rw [← i1.ch] at hc
    have hesD : ∀ e ∈ es, EvD e := fun e he => isJ_D (i1.ok e he)
    have hct := c_l31Text es (by omega) hesD
    obtain ⟨ls0, k1, k2⟩ := spl_jT es 1 0 r
    rw [← i1.txt, hls] at k2
    have hll : lines.length = es.length + (spl 10 r).length := by rw [k2, List.length_append, k1]
    have hnone : nextE r es.length c = none → a = (es, r, c) := fun q => by
      cases hf : 60 - es.length with
      | zero => rw [hf] at i3; exact i3.symm
      | succ f => rw [hf, recJ, q] at i3; exact i3.symm
    have hL : (jT 1 0 es).length = t.length - r.length := by omega
    rcases h10 : decide ((es.length : Int) + 1 < lines.length) with _ | _
    · have hno : (10 : UInt8) ∉ r := fun q => by
        have := spl_len_yes q
        have := of_decide_eq_false h10
        omega
      have ha2 := hnone (next_none _ _ hno)
      subst ha2
      rw [← hL]
      simp -dsimp -implicitDefEqProofs only [pick_nil, pick_cons, look_nil, look_cons, dropB_nil, dropB_cons, inD_nil, inD_cons, inE_nil, inE_cons, or_t_l, or_f_l, Nat.reduceBEq, Nat.reduceDiv, Nat.reduceAdd, beq_self_eq_true, Bool.false_eq_true, Bool.or_false, ↓reduceIte, Nat.reduceEqDiff, List.cons_append, List.nil_append]
      simp -dsimp -implicitDefEqProofs only [go_sem, ↓reduceIte, Nat.reduceEqDiff, Nat.reduceLT, Nat.reduceAdd, Nat.reduceMul, Nat.reduceLeDiff, Nat.le_refl, Int.natCast_zero, Int.toNat_natCast, Int.reduceToNat, h10]
      repeat' (with_reducible refine And.intro ?_ ?_)
      all_goals try (first | omega | (refine ⟨?_, ?_⟩ <;> omega))
      refine sCallT_one hct ?_
      simp -dsimp -implicitDefEqProofs only [go_sem, ↓reduceIte, Nat.reduceEqDiff, Nat.reduceLT, Nat.reduceAdd, Nat.reduceMul, Nat.reduceLeDiff, Nat.le_refl, Int.natCast_zero, Int.toNat_natCast, Int.reduceToNat]
      repeat' (with_reducible refine And.intro ?_ ?_)
      all_goals (first | omega | (refine ⟨?_, ?_⟩ <;> omega) | (exact rfl) | (simp; done) | (rw [hL]; done) | trace_state)
    · rcases h60 : decide ((es.length : Int) < 60) with _ | _
      · have hl60 := of_decide_eq_false h60
        have e60 : es.length = 60 := by omega
        have i4 := i3
        rw [e60] at i4
        have i4 : (es, r, c) = a := i4
        subst i4
        rw [← hL]
        simp -dsimp -implicitDefEqProofs only [pick_nil, pick_cons, look_nil, look_cons, dropB_nil, dropB_cons, inD_nil, inD_cons, inE_nil, inE_cons, or_t_l, or_f_l, Nat.reduceBEq, Nat.reduceDiv, Nat.reduceAdd, beq_self_eq_true, Bool.false_eq_true, Bool.or_false, ↓reduceIte, Nat.reduceEqDiff, List.cons_append, List.nil_append]
        simp -dsimp -implicitDefEqProofs only [go_sem, ↓reduceIte, Nat.reduceEqDiff, Nat.reduceLT, Nat.reduceAdd, Nat.reduceMul, Nat.reduceLeDiff, Nat.le_refl, Int.natCast_zero, Int.toNat_natCast, Int.reduceToNat, h10, h60]
        repeat' (with_reducible refine And.intro ?_ ?_)
        all_goals try (first | omega | (refine ⟨?_, ?_⟩ <;> omega))
        refine sCallT_one hct ?_
        simp -dsimp -implicitDefEqProofs only [go_sem, ↓reduceIte, Nat.reduceEqDiff, Nat.reduceLT, Nat.reduceAdd, Nat.reduceMul, Nat.reduceLeDiff, Nat.le_refl, Int.natCast_zero, Int.toNat_natCast, Int.reduceToNat]
        repeat' (with_reducible refine And.intro ?_ ?_)
        all_goals (first | omega | (refine ⟨?_, ?_⟩ <;> omega) | (exact rfl) | (simp; done) | (rw [hL]; done) | trace_state)
      · have hl60 := of_decide_eq_true h60
        obtain ⟨f, hf⟩ : ∃ f, 60 - es.length = f + 1 := ⟨60 - es.length - 1, by omega⟩
        rw [hf, recJ] at i3
        have gl : lines[es.length]? = some (lineOf r) := by
          rw [k2, List.getElem?_append_right (by omega), k1, Nat.sub_self]; exact headD_get
        have hwl := hpl _ (List.mem_of_getElem? gl)
        have hllt : es.length < lines.length := (List.getElem?_eq_some_iff.1 gl).1
        have hcl := c_l31Line (lineOf r) (by omega)
        have hnx := lineE_next (r := r) (k := es.length) (c := c) (by omega)
        have hD := lineE_D (lineOf r)
        have hstep := fun e => i1.step (e := e) (by omega)
        have hct2 := c_l31Text (es ++ [(lineE (lineOf r)).1]) (by simp; omega) (by
          intro e he
          rcases List.mem_append.1 he with he | he
          · exact hesD e he
          · rw [List.mem_singleton] at he; rw [he]; exact hD)
        have hTs := jT_snoc es 1 0 (lineE (lineOf r)).1
        rw [Nat.zero_add, ← i1.ch] at hTs
        have hjl := jLine_len (k := es.length) hc (by omega) hD.e64
        have hpre := pre_iff (a := jT 1 0 es) (r := r) (l := jLine c es.length (lineE (lineOf r)).1)
        rw [← i1.txt, ← hTs] at hpre
        generalize lineOf r = line at *
        generalize lineE line = q at *
        obtain ⟨e, ok⟩ := q
        dsimp only at hnx hD hct2 hTs hjl hpre hcl
        have hTl : (jT 1 0 (es ++ [e])).length = (jT 1 0 es).length + (jLine c es.length e).length := by rw [hTs, List.length_append]
        simp -dsimp -implicitDefEqProofs only [pick_nil, pick_cons, look_nil, look_cons, dropB_nil, dropB_cons, inD_nil, inD_cons, inE_nil, inE_cons, or_t_l, or_f_l, Nat.reduceBEq, Nat.reduceDiv, Nat.reduceAdd, beq_self_eq_true, Bool.false_eq_true, Bool.or_false, ↓reduceIte, Nat.reduceEqDiff, List.cons_append, List.nil_append]
        simp -dsimp -implicitDefEqProofs only [go_sem, ↓reduceIte, Nat.reduceEqDiff, Nat.reduceLT, Nat.reduceAdd, Nat.reduceMul, Nat.reduceLeDiff, Nat.le_refl, Int.natCast_zero, Int.toNat_natCast, Int.reduceToNat, h10, h60]
        repeat' (with_reducible refine And.intro ?_ ?_)
        all_goals try (first | omega | (refine ⟨?_, ?_⟩ <;> omega))
        simp -dsimp -implicitDefEqProofs only [go_sem, ↓reduceIte, Nat.reduceEqDiff, Nat.reduceLT, Nat.reduceAdd, Nat.reduceMul, Nat.reduceLeDiff, Nat.le_refl, Int.natCast_zero, Int.toNat_natCast, Int.reduceToNat, gl]
        refine sCallT_one hcl ?_
        simp -dsimp -implicitDefEqProofs only [go_sem, ↓reduceIte, Nat.reduceEqDiff, Nat.reduceLT, Nat.reduceAdd, Nat.reduceMul, Nat.reduceLeDiff, Nat.le_refl, Int.natCast_zero, Int.toNat_natCast, Int.reduceToNat]
        refine Later.draw mixed rfl ?_
        simp -dsimp -implicitDefEqProofs only [go_sem, ↓reduceIte, Nat.reduceEqDiff, Nat.reduceLT, Nat.reduceAdd, Nat.reduceMul, Nat.reduceLeDiff, Nat.le_refl, Int.natCast_zero, Int.toNat_natCast, Int.reduceToNat]
        repeat' (with_reducible refine And.intro ?_ ?_)
        all_goals try (first | omega | (refine ⟨?_, ?_⟩ <;> omega) | (exact rfl) | (simp; done))
        have htk : List.take (es.length + 1) (List.map eEv es ++ [AV.agg [eI e.kind, eI e.tag, eI e.person, eI e.who]]) = List.map eEv (es ++ [e]) := by
          rw [List.take_of_length_le (by simp)]; simp
        have hmm : List.map eEv es ++ [AV.agg [eI e.kind, eI e.tag, eI e.person, eI e.who]] = List.map eEv (es ++ [e]) := by simp
        have hell : es.length + 1 = (es ++ [e]).length := by simp
        have hstop : nextE r es.length c = none → a = (es, r, c) := hnone
        clear hnone hcl hcs gl
        generalize jT 1 0 (es ++ [e]) = T2 at *
        simp only [htk]
        refine sCallT_one hct2 ?_
        rcases q0 : (!ok) with _ | _
        · have hok : ok = true := by simpa using q0
          rcases q1 : decide ((T2.length : Int) > t.length) with _ | _
          · rcases q2 : (!decide (t.take T2.length = T2)) with _ | _
            · have w1 := of_decide_eq_false q1
              have w2 : t.take T2.length = T2 := by simpa using q2
              have hp := hpre.2 ⟨by omega, w2⟩
              rw [if_pos ⟨hok, hp⟩] at hnx
              have hst := hstep e hnx
              rw [hnx] at i3
              simp -dsimp -implicitDefEqProofs only [go_sem, ↓reduceIte, Nat.reduceEqDiff, Nat.reduceLT, Nat.reduceAdd, Nat.reduceMul, Nat.reduceLeDiff, Nat.le_refl, Int.natCast_zero, Int.toNat_natCast, Int.reduceToNat, q0, q1, q2]
              repeat' (with_reducible refine And.intro ?_ ?_)
              all_goals try (first | omega | (refine ⟨?_, ?_⟩ <;> omega) | (refine ⟨?_, ?_, ?_⟩ <;> omega))
              all_goals try simp -dsimp -implicitDefEqProofs only [go_sem, ↓reduceIte, Nat.reduceEqDiff, Nat.reduceLT, Nat.reduceAdd, Nat.reduceMul, Nat.reduceLeDiff, Nat.le_refl, Int.natCast_zero, Int.toNat_natCast, Int.reduceToNat, q2]
              repeat' (with_reducible refine And.intro ?_ ?_)
              all_goals try (first | omega | (refine ⟨?_, ?_⟩ <;> omega) | (refine ⟨?_, ?_, ?_⟩ <;> omega))
              refine ⟨⟨es ++ [e], r.drop (jLine c es.length e).length, chainOf c (jHead es.length e)⟩, ⟨hst, by simp; omega, ?_⟩, by simp; omega, .one 34 700 (by decide) (by decide) ?_⟩
              · dsimp only
                rw [show 60 - (es ++ [e]).length = f by simp; omega]
                exact i3
              · dsimp only
                simp -dsimp -implicitDefEqProofs only [go_sem, ↓reduceIte, Nat.reduceEqDiff, Nat.reduceLT, Nat.reduceAdd, Nat.reduceMul, Nat.reduceLeDiff, Nat.le_refl, Int.natCast_zero, Int.toNat_natCast, Int.reduceToNat]
                repeat' (with_reducible refine And.intro ?_ ?_)
                all_goals first | omega | (simp; done) | (exact rfl) | trace_state
            · have w1 := of_decide_eq_false q1
              have w2 : ¬ t.take T2.length = T2 := by simpa using q2
              rw [if_neg (fun w => w2 (hpre.1 w.2).2)] at hnx
              have ha2 := hstop hnx
              subst ha2
              rw [← hL]
              simp -dsimp -implicitDefEqProofs only [go_sem, ↓reduceIte, Nat.reduceEqDiff, Nat.reduceLT, Nat.reduceAdd, Nat.reduceMul, Nat.reduceLeDiff, Nat.le_refl, Int.natCast_zero, Int.toNat_natCast, Int.reduceToNat, q0, q1]
              repeat' (with_reducible refine And.intro ?_ ?_)
              all_goals try (first | omega | (refine ⟨?_, ?_⟩ <;> omega) | (refine ⟨?_, ?_, ?_⟩ <;> omega))
              simp -dsimp -implicitDefEqProofs only [go_sem, ↓reduceIte, Nat.reduceEqDiff, Nat.reduceLT, Nat.reduceAdd, Nat.reduceMul, Nat.reduceLeDiff, Nat.le_refl, Int.natCast_zero, Int.toNat_natCast, Int.reduceToNat, q2]
              refine sCallT_one hct ?_
              simp -dsimp -implicitDefEqProofs only [go_sem, ↓reduceIte, Nat.reduceEqDiff, Nat.reduceLT, Nat.reduceAdd, Nat.reduceMul, Nat.reduceLeDiff, Nat.le_refl, Int.natCast_zero, Int.toNat_natCast, Int.reduceToNat]
              repeat' (with_reducible refine And.intro ?_ ?_)
              all_goals (first | omega | (refine ⟨?_, ?_⟩ <;> omega) | (exact rfl) | (simp; done) | (rw [hL]; done) | trace_state)
          · have w1 := of_decide_eq_true q1
            rw [if_neg (fun w => by have := (hpre.1 w.2).1; omega)] at hnx
            have ha2 := hstop hnx
            subst ha2
            rw [← hL]
            simp -dsimp -implicitDefEqProofs only [go_sem, ↓reduceIte, Nat.reduceEqDiff, Nat.reduceLT, Nat.reduceAdd, Nat.reduceMul, Nat.reduceLeDiff, Nat.le_refl, Int.natCast_zero, Int.toNat_natCast, Int.reduceToNat, q0, q1]
            repeat' (with_reducible refine And.intro ?_ ?_)
            all_goals try (first | omega | (refine ⟨?_, ?_⟩ <;> omega))
            refine sCallT_one hct ?_
            simp -dsimp -implicitDefEqProofs only [go_sem, ↓reduceIte, Nat.reduceEqDiff, Nat.reduceLT, Nat.reduceAdd, Nat.reduceMul, Nat.reduceLeDiff, Nat.le_refl, Int.natCast_zero, Int.toNat_natCast, Int.reduceToNat]
            repeat' (with_reducible refine And.intro ?_ ?_)
            all_goals (first | omega | (refine ⟨?_, ?_⟩ <;> omega) | (exact rfl) | (simp; done) | (rw [hL]; done) | trace_state)
        · have hok : ok = false := by simpa using q0
          rw [if_neg (fun w => by rw [hok] at w; cases w.1)] at hnx
          have ha2 := hstop hnx
          subst ha2
          rw [← hL]
          simp -dsimp -implicitDefEqProofs only [go_sem, ↓reduceIte, Nat.reduceEqDiff, Nat.reduceLT, Nat.reduceAdd, Nat.reduceMul, Nat.reduceLeDiff, Nat.le_refl, Int.natCast_zero, Int.toNat_natCast, Int.reduceToNat, q0]
          repeat' (with_reducible refine And.intro ?_ ?_)
          all_goals try (first | omega | (refine ⟨?_, ?_⟩ <;> omega))
          refine sCallT_one hct ?_
          simp -dsimp -implicitDefEqProofs only [go_sem, ↓reduceIte, Nat.reduceEqDiff, Nat.reduceLT, Nat.reduceAdd, Nat.reduceMul, Nat.reduceLeDiff, Nat.le_refl, Int.natCast_zero, Int.toNat_natCast, Int.reduceToNat]
          repeat' (with_reducible refine And.intro ?_ ?_)
          all_goals (first | omega | (refine ⟨?_, ?_⟩ <;> omega) | (exact rfl) | (simp; done) | (rw [hL]; done) | trace_state)
end Go.Vc
