/-
  Contracts: journals, as the program writes and reads them, whole.
-/
import Derived.Test.YtnmaeefcjdbpcaaDoorJourI
set_option linter.unusedVariables false
set_option linter.unusedSimpArgs false
set_option linter.unnecessarySimpa false
namespace Go.Vc
open Go.Proofs Go.Lib
set_option maxRecDepth 100000
def jText (es : List EvM) : List UInt8 × Int := if es.all isJ = true then (if es.length > 60 then ([], 3) else if (jT 1 0 es).length > 1000 then ([], 3) else (jT 1 0 es, 0)) else ([], 2)
theorem jT_take {es : List EvM} {i : Nat} (h : i < es.length) : jT 1 0 (es.take (i + 1)) = jT 1 0 (es.take i) ++ jLine (jC 1 0 (es.take i)) i es[i] := by
  rw [List.take_succ_eq_append_getElem h, jT_snoc, Nat.zero_add, List.length_take, Nat.min_eq_left (Nat.le_of_lt h)]
theorem jC_take {es : List EvM} {i : Nat} (h : i < es.length) : jC 1 0 (es.take (i + 1)) = chainOf (jC 1 0 (es.take i)) (jHead i es[i]) := by
  rw [List.take_succ_eq_append_getElem h, jC_snoc, Nat.zero_add, List.length_take, Nat.min_eq_left (Nat.le_of_lt h)]
theorem c_iJournalText (es : List EvM) (h : es.length ≤ 1048576) : Fn Tryd.prog 16 [eEvs es] true (· = .tup [eS (jText es).1, eI (jText es).2]) := by
  refine Fn.of_vcN 46 [.tmp 2, .tmp 3] Tryd.func16 rfl rfl rfl rfl rfl (of_decide_eq_true rfl) ?_
  unfold jText
  simp -dsimp -implicitDefEqProofs only [go_sem, ↓reduceIte, Nat.reduceEqDiff, Nat.reduceLT, Nat.reduceAdd, Nat.reduceMul, Nat.reduceLeDiff, Nat.le_refl, Int.natCast_zero, Int.toNat_natCast, Int.reduceToNat]
  refine Later.up [0, 11, 12] [5, 18] [] es.length (fun i => ((es.take i).all isJ) = true) (fun i => [(13, eI i)]) (fun _ => []) rfl ?_ rfl (fun i hi hI => ?_) (fun hI => ?_)
  · simp -dsimp -implicitDefEqProofs only [go_sem, ↓reduceIte, Nat.reduceEqDiff, Nat.reduceLT, Nat.reduceAdd, Nat.reduceMul, Nat.reduceLeDiff, Nat.le_refl, Int.natCast_zero, Int.toNat_natCast, Int.reduceToNat]
  · have gi := get_some hi
    have hall := all_take isJ es i hi
    have hno := fun h => all_no (p := isJ) hi h
    generalize es[i] = e at *
    rcases hq : isJ e with _ | _
    · have hz := hno hq
      simp -dsimp -implicitDefEqProofs only [pick_nil, pick_cons, look_nil, look_cons, dropB_nil, dropB_cons, inD_nil, inD_cons, inE_nil, inE_cons, or_t_l, or_f_l, Nat.reduceBEq, Nat.reduceDiv, Nat.reduceAdd, beq_self_eq_true, Bool.false_eq_true, Bool.or_false, ↓reduceIte, Nat.reduceEqDiff, List.cons_append, List.nil_append]
      simp -dsimp -implicitDefEqProofs only [go_sem, ↓reduceIte, Nat.reduceEqDiff, Nat.reduceLT, Nat.reduceAdd, Nat.reduceMul, Nat.reduceLeDiff, Nat.le_refl, Int.natCast_zero, Int.toNat_natCast, Int.reduceToNat, lt_len hi, gi]
      repeat' (with_reducible refine And.intro ?_ ?_)
      all_goals try (first | omega | (refine ⟨?_, ?_⟩ <;> omega))
      refine sCallT_one (c_isJournalEvent e) ?_
      simp -dsimp -implicitDefEqProofs only [go_sem, ↓reduceIte, Nat.reduceEqDiff, Nat.reduceLT, Nat.reduceAdd, Nat.reduceMul, Nat.reduceLeDiff, Nat.le_refl, Int.natCast_zero, Int.toNat_natCast, Int.reduceToNat, hq]
      rw [if_neg (by rw [hz]; decide)]
      all_goals first | (exact rfl) | (simp; done) | trace_state
    · simp -dsimp -implicitDefEqProofs only [pick_nil, pick_cons, look_nil, look_cons, dropB_nil, dropB_cons, inD_nil, inD_cons, inE_nil, inE_cons, or_t_l, or_f_l, Nat.reduceBEq, Nat.reduceDiv, Nat.reduceAdd, beq_self_eq_true, Bool.false_eq_true, Bool.or_false, ↓reduceIte, Nat.reduceEqDiff, List.cons_append, List.nil_append]
      simp -dsimp -implicitDefEqProofs only [go_sem, ↓reduceIte, Nat.reduceEqDiff, Nat.reduceLT, Nat.reduceAdd, Nat.reduceMul, Nat.reduceLeDiff, Nat.le_refl, Int.natCast_zero, Int.toNat_natCast, Int.reduceToNat, lt_len hi, gi]
      repeat' (with_reducible refine And.intro ?_ ?_)
      all_goals try (first | omega | (refine ⟨?_, ?_⟩ <;> omega))
      refine sCallT_one (c_isJournalEvent e) ?_
      simp -dsimp -implicitDefEqProofs only [go_sem, ↓reduceIte, Nat.reduceEqDiff, Nat.reduceLT, Nat.reduceAdd, Nat.reduceMul, Nat.reduceLeDiff, Nat.le_refl, Int.natCast_zero, Int.toNat_natCast, Int.reduceToNat, hq]
      repeat' (with_reducible refine And.intro ?_ ?_)
      all_goals first | omega | (refine ⟨?_, ?_⟩ <;> omega) | (rw [hall, hI, hq]; rfl) | (simp; done) | trace_state
  · rw [List.take_length] at hI
    rw [if_pos hI]
    rcases h60 : decide ((es.length : Int) > 60) with _ | _
    · have hl60 := of_decide_eq_false h60
      rw [if_neg (by omega)]
      have hJ : ∀ e ∈ es, isJ e = true := fun e he => List.all_eq_true.1 hI e he
      have h64 : ∀ i, ∀ e ∈ es.take i, Ev64 e := fun i e he => isJ_64 (hJ e (List.mem_of_mem_take he))
      simp -dsimp -implicitDefEqProofs only [pick_nil, pick_cons, look_nil, look_cons, dropB_nil, dropB_cons, inD_nil, inD_cons, inE_nil, inE_cons, or_t_l, or_f_l, Nat.reduceBEq, Nat.reduceDiv, Nat.reduceAdd, beq_self_eq_true, Bool.false_eq_true, Bool.or_false, ↓reduceIte, Nat.reduceEqDiff, List.cons_append, List.nil_append]
      simp -dsimp -implicitDefEqProofs only [go_sem, ↓reduceIte, Nat.reduceEqDiff, Nat.reduceLT, Nat.reduceAdd, Nat.reduceMul, Nat.reduceLeDiff, Nat.le_refl, Int.natCast_zero, Int.toNat_natCast, Int.reduceToNat, nlt_len, h60]
      refine Later.up [24, 25] [10, 35] [] es.length (fun _ => True) (fun i => [(6, eS (jT 1 0 (es.take i))), (7, eI (jC 1 0 (es.take i))), (26, eI i)]) (fun _ => []) trivial ?_ rfl (fun i hi _ => ?_) (fun _ => ?_)
      · simp -dsimp -implicitDefEqProofs only [go_sem, ↓reduceIte, Nat.reduceEqDiff, Nat.reduceLT, Nat.reduceAdd, Nat.reduceMul, Nat.reduceLeDiff, Nat.le_refl, Int.natCast_zero, Int.toNat_natCast, Int.reduceToNat]
        exact ⟨rfl, rfl⟩
      · have gi := get_some hi
        have h1 := jT_len (es.take i) 1 0 (by omega) (by simp; omega) (h64 i)
        have h2 := jC_in (es.take i) 1 0 (by omega)
        have he64 := isJ_64 (hJ es[i] (List.getElem_mem hi))
        have h3 := jLine_len (k := i) h2 (by omega) he64
        rw [jT_take hi, jC_take hi]
        have hlt : (es.take i).length ≤ 60 := by simp; omega
        generalize es[i] = e at *
        generalize jT 1 0 (es.take i) = T at *
        generalize jC 1 0 (es.take i) = C at *
        simp -dsimp -implicitDefEqProofs only [pick_nil, pick_cons, look_nil, look_cons, dropB_nil, dropB_cons, inD_nil, inD_cons, inE_nil, inE_cons, or_t_l, or_f_l, Nat.reduceBEq, Nat.reduceDiv, Nat.reduceAdd, beq_self_eq_true, Bool.false_eq_true, Bool.or_false, ↓reduceIte, Nat.reduceEqDiff, List.cons_append, List.nil_append]
        simp -dsimp -implicitDefEqProofs only [go_sem, ↓reduceIte, Nat.reduceEqDiff, Nat.reduceLT, Nat.reduceAdd, Nat.reduceMul, Nat.reduceLeDiff, Nat.le_refl, Int.natCast_zero, Int.toNat_natCast, Int.reduceToNat, lt_len hi, gi]
        repeat' (with_reducible refine And.intro ?_ ?_)
        all_goals try (first | omega | (refine ⟨?_, ?_⟩ <;> omega))
        refine sCallT_one (c_journalLine C i e h2 (by omega) he64) ?_
        simp -dsimp -implicitDefEqProofs only [go_sem, ↓reduceIte, Nat.reduceEqDiff, Nat.reduceLT, Nat.reduceAdd, Nat.reduceMul, Nat.reduceLeDiff, Nat.le_refl, Int.natCast_zero, Int.toNat_natCast, Int.reduceToNat]
        repeat' (with_reducible refine And.intro ?_ ?_)
        all_goals (first | omega | (refine ⟨?_, ?_⟩ <;> omega) | (exact rfl) | (simp; done) | (rw [hL]; done) | trace_state)
      · rw [List.take_length]
        rcases hk : decide (((jT 1 0 es).length : Int) > 1000) with _ | _
        · have := of_decide_eq_false hk
          rw [if_neg (by omega)]
          simp -dsimp -implicitDefEqProofs only [pick_nil, pick_cons, look_nil, look_cons, dropB_nil, dropB_cons, inD_nil, inD_cons, inE_nil, inE_cons, or_t_l, or_f_l, Nat.reduceBEq, Nat.reduceDiv, Nat.reduceAdd, beq_self_eq_true, Bool.false_eq_true, Bool.or_false, ↓reduceIte, Nat.reduceEqDiff, List.cons_append, List.nil_append]
          simp -dsimp -implicitDefEqProofs only [go_sem, ↓reduceIte, Nat.reduceEqDiff, Nat.reduceLT, Nat.reduceAdd, Nat.reduceMul, Nat.reduceLeDiff, Nat.le_refl, Int.natCast_zero, Int.toNat_natCast, Int.reduceToNat, nlt_len, hk]
        · have := of_decide_eq_true hk
          rw [if_pos (by omega)]
          simp -dsimp -implicitDefEqProofs only [pick_nil, pick_cons, look_nil, look_cons, dropB_nil, dropB_cons, inD_nil, inD_cons, inE_nil, inE_cons, or_t_l, or_f_l, Nat.reduceBEq, Nat.reduceDiv, Nat.reduceAdd, beq_self_eq_true, Bool.false_eq_true, Bool.or_false, ↓reduceIte, Nat.reduceEqDiff, List.cons_append, List.nil_append]
          simp -dsimp -implicitDefEqProofs only [go_sem, ↓reduceIte, Nat.reduceEqDiff, Nat.reduceLT, Nat.reduceAdd, Nat.reduceMul, Nat.reduceLeDiff, Nat.le_refl, Int.natCast_zero, Int.toNat_natCast, Int.reduceToNat, nlt_len, hk]
          all_goals (first | omega | (refine ⟨?_, ?_⟩ <;> omega) | (exact rfl) | (simp; done) | (rw [hL]; done) | trace_state)
    · have hl60 := of_decide_eq_true h60
      rw [if_pos (by omega)]
      simp -dsimp -implicitDefEqProofs only [pick_nil, pick_cons, look_nil, look_cons, dropB_nil, dropB_cons, inD_nil, inD_cons, inE_nil, inE_cons, or_t_l, or_f_l, Nat.reduceBEq, Nat.reduceDiv, Nat.reduceAdd, beq_self_eq_true, Bool.false_eq_true, Bool.or_false, ↓reduceIte, Nat.reduceEqDiff, List.cons_append, List.nil_append]
      simp -dsimp -implicitDefEqProofs only [go_sem, ↓reduceIte, Nat.reduceEqDiff, Nat.reduceLT, Nat.reduceAdd, Nat.reduceMul, Nat.reduceLeDiff, Nat.le_refl, Int.natCast_zero, Int.toNat_natCast, Int.reduceToNat, nlt_len, h60]
      all_goals (first | omega | (refine ⟨?_, ?_⟩ <;> omega) | (exact rfl) | (simp; done) | (rw [hL]; done) | trace_state)
theorem part_len {c : UInt8} {l : List UInt8} : ((spl c l).headD []).length ≤ l.length := by
  have := spl_ne c l
  cases h : spl c l with
  | nil => exact absurd h this
  | cons a r => exact spl_part_len c l a (by rw [h]; exact List.mem_cons_self ..)
theorem five {α : Type} {l : List α} (h : l.length = 5) : ∃ a b c d e, l = [a, b, c, d, e] := by
  match l, h with
  | [a, b, c, d, e], _ => exact ⟨a, b, c, d, e, rfl⟩
theorem partN_64 {c : UInt8} {s : List UInt8} (h : (partN c s).2 = true) : ∀ x ∈ (partN c s).1, I64 x := by
  unfold partN at *
  split at h
  · rename_i h1
    rw [if_pos h1]
    intro x hx
    obtain ⟨w, hw, rfl⟩ := List.mem_map.1 hx
    exact (numI_true (List.all_eq_true.1 h1 w hw)).1
  · cases h
structure JSt where
  es : List EvM
  r : List UInt8
  c : Int
set_option maxHeartbeats 4000000 in
theorem c_readJournal (t : List UInt8) (h : t.length ≤ 1048575) : Fn Tryd.prog 64 [eS t] true (· = .tup [eEvs (readJ t).1, eI ((t.length - (readJ t).2.1.length : Nat) : Int), eI (readJ t).2.2]) := by
  refine Fn.of_vcN 95 [.tmp 2, .tmp 3, .tmp 4] Tryd.func64 rfl rfl rfl rfl rfl (of_decide_eq_true rfl) ?_
  obtain ⟨a, ha⟩ : ∃ a, readJ t = a := ⟨_, rfl⟩
  rw [ha]
  unfold readJ at ha
  simp -dsimp -implicitDefEqProofs only [go_sem, ↓reduceIte, Nat.reduceEqDiff, Nat.reduceLT, Nat.reduceAdd, Nat.reduceMul, Nat.reduceLeDiff, Nat.le_refl, Int.natCast_zero, Int.toNat_natCast, Int.reduceToNat]
  refine Later.lp [0] [16, 21, 27, 33, 39, 50, 69, 71, 75, 85, 86, 90] [19] (fun x : JSt => JInv t x.es x.r x.c ∧ x.es.length ≤ 60 ∧ recJ (60 - x.es.length) x.es x.r x.c = a)
    (fun x => [(5, .ref 19 0 0 x.es.length), (6, eI ((t.length - x.r.length : Nat) : Int)), (7, eI x.c)]) (fun x => [(19, .row 0 ⟨4, true⟩ true (x.es.map eEv))]) (fun x => 60 - x.es.length) ⟨[], t, 1⟩ ⟨JInv.start t, by simp, ha⟩ ?_ rfl (fun x hI => ?_)
  · simp -dsimp -implicitDefEqProofs only [go_sem, ↓reduceIte, Nat.reduceEqDiff, Nat.reduceLT, Nat.reduceAdd, Nat.reduceMul, Nat.reduceLeDiff, Nat.le_refl, Int.natCast_zero, Int.toNat_natCast, Int.reduceToNat]
    simp
  · obtain ⟨es, r, c⟩ := x
    obtain ⟨i1, i2, i3⟩ := hI
    dsimp only at i1 i2 i3 ⊢
    have hlen : t.length = (jT 1 0 es).length + r.length := by rw [i1.txt, List.length_append]
    have hdr : t.drop (t.length - r.length) = r := by
      have := i1.txt
      conv => lhs; rw [this]
      rw [List.length_append, Nat.add_sub_cancel, List.drop_left]
    have hc := jC_in es 1 0 (by omega)
    rw [← i1.ch] at hc
    rcases h60 : decide ((es.length : Int) < 60) with _ | _
    · have hl60 := of_decide_eq_false h60
      have e60 : es.length = 60 := by omega
      rw [e60] at i3
      have i3 : (es, r, c) = a := i3
      subst i3
      simp -dsimp -implicitDefEqProofs only [pick_nil, pick_cons, look_nil, look_cons, dropB_nil, dropB_cons, inD_nil, inD_cons, inE_nil, inE_cons, or_t_l, or_f_l, Nat.reduceBEq, Nat.reduceDiv, Nat.reduceAdd, beq_self_eq_true, Bool.false_eq_true, Bool.or_false, ↓reduceIte, Nat.reduceEqDiff, List.cons_append, List.nil_append]
      simp -dsimp -implicitDefEqProofs only [go_sem, ↓reduceIte, Nat.reduceEqDiff, Nat.reduceLT, Nat.reduceAdd, Nat.reduceMul, Nat.reduceLeDiff, Nat.le_refl, Int.natCast_zero, Int.toNat_natCast, Int.reduceToNat, h60]
      all_goals (first | omega | (refine ⟨?_, ?_⟩ <;> omega) | (exact rfl) | (simp; done) | (rw [hL]; done) | trace_state)
    · have hl60 := of_decide_eq_true h60
      obtain ⟨f, hf⟩ : ∃ f, 60 - es.length = f + 1 := ⟨60 - es.length - 1, by omega⟩
      rw [hf, recJ] at i3
      have hcut := c_Cut r 10 (by omega)
      have hcut2 := c_Cut (lineOf r) 32 (by have := part_len (c := 10) (l := r); show (lineOf r).length ≤ _; unfold lineOf; omega)
      have hll : (headOf (lineOf r)).length ≤ r.length := by
        have h1 := part_len (c := 32) (l := lineOf r)
        have h2 := part_len (c := 10) (l := r)
        unfold headOf lineOf at *; omega
      have hll1 : (lineOf r).length ≤ r.length := part_len
      have hpar := c_parted (headOf (lineOf r)) 44 (by omega)
      have hp64 := partN_64 (c := 44) (s := headOf (lineOf r))
      have hnx : nextE r es.length c = if (10 : UInt8) ∈ r ∧ (partN 44 (headOf (lineOf r))).2 = true ∧ (partN 44 (headOf (lineOf r))).1.length = 5 then
        if isJ (ev4 (partN 44 (headOf (lineOf r))).1) = true ∧ jLine c es.length (ev4 (partN 44 (headOf (lineOf r))).1) = lineOf r ++ [10] then some (ev4 (partN 44 (headOf (lineOf r))).1) else none
        else none := rfl
      have hstep := fun e => i1.step (e := e) (by omega)
      have e1 : (spl 10 r).headD [] = lineOf r := rfl
      have e2 : (spl 32 (lineOf r)).headD [] = headOf (lineOf r) := rfl
      rw [e1] at hcut
      rw [e2] at hcut2
      generalize headOf (lineOf r) = hd at *
      generalize lineOf r = line at *
      generalize partN 44 hd = p at *
      obtain ⟨L, hL⟩ : ∃ L, t.length - r.length = L := ⟨_, rfl⟩
      rw [hL] at hdr ⊢
      have hb0 : (!decide ((10 : UInt8) ∈ r)) = true → nextE r es.length c = none := fun q => by rw [hnx, if_neg]; intro w; simp [w.1] at q
      have hb1 : (!p.2) = true → nextE r es.length c = none := fun q => by rw [hnx, if_neg]; intro w; simp [w.2.1] at q
      have hb2 : ((p.1.length : Int) != 5) = true → nextE r es.length c = none := fun q => by rw [hnx, if_neg]; intro w; simp [w.2.2] at q
      have hnone : nextE r es.length c = none → a = (es, r, c) := fun q => by rw [q] at i3; exact i3.symm
      simp -dsimp -implicitDefEqProofs only [pick_nil, pick_cons, look_nil, look_cons, dropB_nil, dropB_cons, inD_nil, inD_cons, inE_nil, inE_cons, or_t_l, or_f_l, Nat.reduceBEq, Nat.reduceDiv, Nat.reduceAdd, beq_self_eq_true, Bool.false_eq_true, Bool.or_false, ↓reduceIte, Nat.reduceEqDiff, List.cons_append, List.nil_append]
      simp -dsimp -implicitDefEqProofs only [go_sem, ↓reduceIte, Nat.reduceEqDiff, Nat.reduceLT, Nat.reduceAdd, Nat.reduceMul, Nat.reduceLeDiff, Nat.le_refl, Int.natCast_zero, Int.toNat_natCast, Int.reduceToNat, h60]
      repeat' (with_reducible refine And.intro ?_ ?_)
      all_goals try (first | omega | (refine ⟨?_, ?_⟩ <;> omega))
      simp -dsimp -implicitDefEqProofs only [go_sem, ↓reduceIte, Nat.reduceEqDiff, Nat.reduceLT, Nat.reduceAdd, Nat.reduceMul, Nat.reduceLeDiff, Nat.le_refl, Int.natCast_zero, Int.toNat_natCast, Int.reduceToNat, hdr]
      repeat' (with_reducible refine And.intro ?_ ?_)
      all_goals try (first | omega | (refine ⟨?_, ?_, ?_⟩ <;> omega))
      refine sCallT_one hcut ?_
      simp -dsimp -implicitDefEqProofs only [go_sem, ↓reduceIte, Nat.reduceEqDiff, Nat.reduceLT, Nat.reduceAdd, Nat.reduceMul, Nat.reduceLeDiff, Nat.le_refl, Int.natCast_zero, Int.toNat_natCast, Int.reduceToNat]
      refine sCallT_one hcut2 ?_
      simp -dsimp -implicitDefEqProofs only [go_sem, ↓reduceIte, Nat.reduceEqDiff, Nat.reduceLT, Nat.reduceAdd, Nat.reduceMul, Nat.reduceLeDiff, Nat.le_refl, Int.natCast_zero, Int.toNat_natCast, Int.reduceToNat]
      refine sCallT_one hpar ?_
      rcases q0 : (!decide ((10 : UInt8) ∈ r)) with _ | _
      · rcases q1 : (!p.2) with _ | _
        · rcases q2 : ((p.1.length : Int) != 5) with _ | _
          · have hp2 : p.2 = true := by simpa using q1
            have hp5 : p.1.length = 5 := by simp at q2; omega
            have h10 : (10 : UInt8) ∈ r := by simpa using q0
            have hp64 := hp64 hp2
            rw [if_pos ⟨h10, hp2, hp5⟩] at hnx
            obtain ⟨pl, pb⟩ := p
            dsimp only at hp2 hp5 hp64 hnx q1 q2 hpar ⊢
            obtain ⟨x0, x1, x2, x3, x4, rfl⟩ := five hp5
            have he64 : Ev64 ⟨x1, x2, x3, x4⟩ := ⟨hp64 x1 (by simp), hp64 x2 (by simp), hp64 x3 (by simp), hp64 x4 (by simp)⟩
            have hev : ev4 [x0, x1, x2, x3, x4] = ⟨x1, x2, x3, x4⟩ := rfl
            rw [hev] at hnx
            have hcl := c_journalLine c es.length ⟨x1, x2, x3, x4⟩ hc (by omega) he64
            have hcj := c_isJournalEvent ⟨x1, x2, x3, x4⟩
            have hjl := jLine_len (k := es.length) hc (by omega) he64
            have hst := hstep ⟨x1, x2, x3, x4⟩
            have hcs := chain_in (jHead es.length ⟨x1, x2, x3, x4⟩) c hc
            have q55 : (((5 : Nat) : Int) != 5) = false := rfl
            simp -dsimp -implicitDefEqProofs only [go_sem, ↓reduceIte, Nat.reduceEqDiff, Nat.reduceLT, Nat.reduceAdd, Nat.reduceMul, Nat.reduceLeDiff, Nat.le_refl, Int.natCast_zero, Int.toNat_natCast, Int.reduceToNat, q0, q1, q2, q55]
            repeat' (with_reducible refine And.intro ?_ ?_)
            all_goals try (first | omega | (refine ⟨?_, ?_⟩ <;> omega) | (exact rfl))
            refine Later.draw mixed rfl ?_
            simp -dsimp -implicitDefEqProofs only [go_sem, ↓reduceIte, Nat.reduceEqDiff, Nat.reduceLT, Nat.reduceAdd, Nat.reduceMul, Nat.reduceLeDiff, Nat.le_refl, Int.natCast_zero, Int.toNat_natCast, Int.reduceToNat]
            repeat' (with_reducible refine And.intro ?_ ?_)
            all_goals try (first | omega | (refine ⟨?_, ?_⟩ <;> omega) | (exact rfl))
            refine sCallT_one hcl ?_
            simp -dsimp -implicitDefEqProofs only [go_sem, ↓reduceIte, Nat.reduceEqDiff, Nat.reduceLT, Nat.reduceAdd, Nat.reduceMul, Nat.reduceLeDiff, Nat.le_refl, Int.natCast_zero, Int.toNat_natCast, Int.reduceToNat]
            refine sCallT_one hcj ?_
            rcases q3 : isJ ⟨x1, x2, x3, x4⟩ with _ | _
            · rw [if_neg (by rw [q3]; rintro ⟨w, _⟩; cases w)] at hnx
              have ha2 := hnone hnx
              subst ha2
              simp -dsimp -implicitDefEqProofs only [go_sem, ↓reduceIte, Nat.reduceEqDiff, Nat.reduceLT, Nat.reduceAdd, Nat.reduceMul, Nat.reduceLeDiff, Nat.le_refl, Int.natCast_zero, Int.toNat_natCast, Int.reduceToNat, q3]
              repeat' (with_reducible refine And.intro ?_ ?_)
              all_goals (first | omega | (refine ⟨?_, ?_⟩ <;> omega) | (exact rfl) | (simp; done) | (rw [hL]; done) | trace_state)
            · rcases q4 : (!decide (jLine c es.length ⟨x1, x2, x3, x4⟩ = line ++ [10])) with _ | _
              · have q5 : jLine c es.length ⟨x1, x2, x3, x4⟩ = line ++ [10] := by simpa using q4
                rw [if_pos ⟨q3, q5⟩] at hnx
                rw [hnx] at i3
                have hst := hst hnx
                have hpre := ((nextE_iff (by omega)).1 hnx).2.length_le
                have hL2 : (jLine c es.length ⟨x1, x2, x3, x4⟩).length + L = t.length - (r.length - (jLine c es.length ⟨x1, x2, x3, x4⟩).length) := by omega
                simp -dsimp -implicitDefEqProofs only [go_sem, ↓reduceIte, Nat.reduceEqDiff, Nat.reduceLT, Nat.reduceAdd, Nat.reduceMul, Nat.reduceLeDiff, Nat.le_refl, Int.natCast_zero, Int.toNat_natCast, Int.reduceToNat, q3, q4]
                repeat' (with_reducible refine And.intro ?_ ?_)
                all_goals try (first | omega | (refine ⟨?_, ?_⟩ <;> omega))
                refine ⟨⟨es ++ [⟨x1, x2, x3, x4⟩], r.drop (jLine c es.length ⟨x1, x2, x3, x4⟩).length, chainOf c (jHead es.length ⟨x1, x2, x3, x4⟩)⟩, ⟨hst, by simp; omega, ?_⟩, by simp; omega, ?_⟩
                · dsimp only
                  rw [show 60 - (es ++ [(⟨x1, x2, x3, x4⟩ : EvM)]).length = f by simp; omega]
                  exact i3
                · clear i3 hst hnx hstep hpre
                  generalize jLine c es.length ⟨x1, x2, x3, x4⟩ = jl at *
                  simp -dsimp -implicitDefEqProofs only [go_sem, ↓reduceIte, Nat.reduceEqDiff, Nat.reduceLT, Nat.reduceAdd, Nat.reduceMul, Nat.reduceLeDiff, Nat.le_refl, Int.natCast_zero, Int.toNat_natCast, Int.reduceToNat]
                  repeat' (with_reducible refine And.intro ?_ ?_)
                  all_goals first | omega | (simp; done) | (simp; omega) | (exact rfl) | trace_state
              · have q5 : ¬ jLine c es.length ⟨x1, x2, x3, x4⟩ = line ++ [10] := by simpa using q4
                rw [if_neg (fun w => q5 w.2)] at hnx
                have ha2 := hnone hnx
                subst ha2
                simp -dsimp -implicitDefEqProofs only [go_sem, ↓reduceIte, Nat.reduceEqDiff, Nat.reduceLT, Nat.reduceAdd, Nat.reduceMul, Nat.reduceLeDiff, Nat.le_refl, Int.natCast_zero, Int.toNat_natCast, Int.reduceToNat, q3, q4]
                repeat' (with_reducible refine And.intro ?_ ?_)
                all_goals (first | omega | (refine ⟨?_, ?_⟩ <;> omega) | (exact rfl) | (simp; done) | (rw [hL]; done) | trace_state)
          · have ha2 := hnone (hb2 q2)
            subst ha2
            simp -dsimp -implicitDefEqProofs only [go_sem, ↓reduceIte, Nat.reduceEqDiff, Nat.reduceLT, Nat.reduceAdd, Nat.reduceMul, Nat.reduceLeDiff, Nat.le_refl, Int.natCast_zero, Int.toNat_natCast, Int.reduceToNat, q0, q1, q2]
            repeat' (with_reducible refine And.intro ?_ ?_)
            all_goals (first | omega | (refine ⟨?_, ?_⟩ <;> omega) | (exact rfl) | (simp; done) | (rw [hL]; done) | trace_state)
        · have ha2 := hnone (hb1 q1)
          subst ha2
          simp -dsimp -implicitDefEqProofs only [go_sem, ↓reduceIte, Nat.reduceEqDiff, Nat.reduceLT, Nat.reduceAdd, Nat.reduceMul, Nat.reduceLeDiff, Nat.le_refl, Int.natCast_zero, Int.toNat_natCast, Int.reduceToNat, q0, q1]
          repeat' (with_reducible refine And.intro ?_ ?_)
          all_goals (first | omega | (refine ⟨?_, ?_⟩ <;> omega) | (exact rfl) | (simp; done) | (rw [hL]; done) | trace_state)
      · have ha2 := hnone (hb0 q0)
        subst ha2
        simp -dsimp -implicitDefEqProofs only [go_sem, ↓reduceIte, Nat.reduceEqDiff, Nat.reduceLT, Nat.reduceAdd, Nat.reduceMul, Nat.reduceLeDiff, Nat.le_refl, Int.natCast_zero, Int.toNat_natCast, Int.reduceToNat, q0]
        repeat' (with_reducible refine And.intro ?_ ?_)
        all_goals (first | omega | (refine ⟨?_, ?_⟩ <;> omega) | (exact rfl) | (simp; done) | (rw [hL]; done) | trace_state)
end Go.Vc
