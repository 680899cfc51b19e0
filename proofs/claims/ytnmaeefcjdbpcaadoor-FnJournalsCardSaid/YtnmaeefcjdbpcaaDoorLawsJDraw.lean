/-
  The contract of the law on journals that are drawn.
-/
import Derived.Test.YtnmaeefcjdbpcaaDoorDrawJ2
import Derived.Test.YtnmaeefcjdbpcaaDoorDice
set_option linter.unusedVariables false
set_option linter.unusedSimpArgs false
set_option linter.unnecessarySimpa false
namespace Go.Vc
open Go.Proofs Go.Lib
set_option maxRecDepth 100000
attribute [go_sem] decide_true
theorem count_next {t : List UInt8} {i : Nat} (h : i < t.length) : (t.take (i + 1)).count 10 = (t.take i).count 10 + (if (((t[i]).toNat : Int) == 10) = true then 1 else 0) := by
  rw [List.take_succ_eq_append_getElem h, List.count_append]
  congr 1
  by_cases hc : t[i] = 10
  · rw [hc]; rfl
  · have h1 : (((t[i]).toNat : Int) == 10) = false := by
      rw [Bool.eq_false_iff]; intro h; apply hc
      have : (t[i]).toNat = 10 := by have h := beq_iff_eq.1 h; omega
      exact UInt8.toNat_inj.1 this
    rw [h1, if_neg (by simp)]
    simp [List.count_cons, hc]
set_option maxHeartbeats 8000000 in
theorem c_FnJournals (bs : List UInt8) (h : bs.length ≤ 9223372036854775807) : Fn Tryd.prog 9 [eYs bs] true (· = eB true) := by
  refine Fn.of_vcN 167 [.tmp 2] Tryd.func9 rfl rfl rfl rfl rfl (of_decide_eq_true rfl) ?_
  simp -dsimp -implicitDefEqProofs only [go_sem, ↓reduceIte, Nat.reduceEqDiff, Nat.reduceLT, Nat.reduceAdd, Nat.reduceMul, Nat.reduceLeDiff, Nat.le_refl, Int.natCast_zero, Int.toNat_natCast, Int.reduceToNat]
  refine sCallT_one (c_big bs h) ?_
  rcases hb : decide ((bs.length : Int) > 4096) with _ | _
  · have hl : bs.length ≤ 4096 := by have := of_decide_eq_false hb; omega
    simp -dsimp -implicitDefEqProofs only [go_sem, ↓reduceIte, Nat.reduceEqDiff, Nat.reduceLT, Nat.reduceAdd, Nat.reduceMul, Nat.reduceLeDiff, Nat.le_refl, Int.natCast_zero, Int.toNat_natCast, Int.reduceToNat, hb]
    refine sCallT_any (c_DrawJournalText bs hl) ?_
    rintro _ ⟨es, e1, rfl⟩
    simp -dsimp -implicitDefEqProofs only [go_sem, ↓reduceIte, Nat.reduceEqDiff, Nat.reduceLT, Nat.reduceAdd, Nat.reduceMul, Nat.reduceLeDiff, Nat.le_refl, Int.natCast_zero, Int.toNat_natCast, Int.reduceToNat]
    have j1 := c_iJournalText es (by omega)
    have j2 := c_sJournalText es (by omega)
    have hcut := @recov_cut es
    have hlen := jText_len es
    have hR : (jText es).2 = 0 → Fn Tryd.prog 33 [eS (jText es).1] true (· = .tup [eEvs es, eI 0]) := fun h => by
      have := c_iReadJournal (jText es).1 (by omega)
      rw [rd_jText h] at this
      exact this
    generalize jText es = q at *
    obtain ⟨t, bad⟩ := q
    dsimp only at j1 j2 hcut hlen hR
    refine sCallT_one j1 ?_
    simp -dsimp -implicitDefEqProofs only [go_sem, ↓reduceIte, Nat.reduceEqDiff, Nat.reduceLT, Nat.reduceAdd, Nat.reduceMul, Nat.reduceLeDiff, Nat.le_refl, Int.natCast_zero, Int.toNat_natCast, Int.reduceToNat]
    refine sCallT_one j2 ?_
    simp -dsimp -implicitDefEqProofs only [go_sem, ↓reduceIte, Nat.reduceEqDiff, Nat.reduceLT, Nat.reduceAdd, Nat.reduceMul, Nat.reduceLeDiff, Nat.le_refl, Int.natCast_zero, Int.toNat_natCast, Int.reduceToNat]
    clear j1 j2
    refine sCallT_any (c_DrawRecoverJournal bs hl) ?_
    rintro _ ⟨s, s1, rfl⟩
    simp -dsimp -implicitDefEqProofs only [go_sem, ↓reduceIte, Nat.reduceEqDiff, Nat.reduceLT, Nat.reduceAdd, Nat.reduceMul, Nat.reduceLeDiff, Nat.le_refl, Int.natCast_zero, Int.toNat_natCast, Int.reduceToNat]
    have l1 := c_iRecoverJournal s (by omega)
    have l2 := c_sRecoverJournal s (by omega)
    have l3 := c_iReadJournal s (by omega)
    have l4 := c_sReadJournal s (by omega)
    have l5 := @recov_facts s
    have l6 := recov_len s
    have l7 := (rdJ_facts s).2
    generalize recov s = q at *
    obtain ⟨x, n, one⟩ := q
    generalize rdJ s = q at *
    obtain ⟨r, three⟩ := q
    dsimp only at l1 l2 l3 l4 l5 l6 l7
    refine sCallT_one l1 ?_
    simp -dsimp -implicitDefEqProofs only [go_sem, ↓reduceIte, Nat.reduceEqDiff, Nat.reduceLT, Nat.reduceAdd, Nat.reduceMul, Nat.reduceLeDiff, Nat.le_refl, Int.natCast_zero, Int.toNat_natCast, Int.reduceToNat]
    refine sCallT_one l2 ?_
    simp -dsimp -implicitDefEqProofs only [go_sem, ↓reduceIte, Nat.reduceEqDiff, Nat.reduceLT, Nat.reduceAdd, Nat.reduceMul, Nat.reduceLeDiff, Nat.le_refl, Int.natCast_zero, Int.toNat_natCast, Int.reduceToNat]
    refine sCallT_one l3 ?_
    simp -dsimp -implicitDefEqProofs only [go_sem, ↓reduceIte, Nat.reduceEqDiff, Nat.reduceLT, Nat.reduceAdd, Nat.reduceMul, Nat.reduceLeDiff, Nat.le_refl, Int.natCast_zero, Int.toNat_natCast, Int.reduceToNat]
    refine sCallT_one l4 ?_
    simp -dsimp -implicitDefEqProofs only [go_sem, ↓reduceIte, Nat.reduceEqDiff, Nat.reduceLT, Nat.reduceAdd, Nat.reduceMul, Nat.reduceLeDiff, Nat.le_refl, Int.natCast_zero, Int.toNat_natCast, Int.reduceToNat]
    clear l1 l2 l3 l4
    repeat' first
      | (with_reducible refine And.intro ?_ ?_)
      | (refine sCallT_one (c_likeEvents x x (by omega)) ?_; try simp -dsimp -implicitDefEqProofs only [go_sem, ↓reduceIte, Nat.reduceEqDiff, Nat.reduceLT, Nat.reduceAdd, Nat.reduceMul, Nat.reduceLeDiff, Nat.le_refl, Int.natCast_zero, Int.toNat_natCast, Int.reduceToNat])
      | (refine sCallT_one (c_likeEvents r r (by omega)) ?_; try simp -dsimp -implicitDefEqProofs only [go_sem, ↓reduceIte, Nat.reduceEqDiff, Nat.reduceLT, Nat.reduceAdd, Nat.reduceMul, Nat.reduceLeDiff, Nat.le_refl, Int.natCast_zero, Int.toNat_natCast, Int.reduceToNat])
    all_goals try (first | omega | (refine ⟨?_, ?_⟩ <;> omega) | (exact rfl) | (simp; done) | decide)
    rcases hf : (one == 0) with _ | _
    · refine Br.neg rfl ?_
      simp -dsimp -implicitDefEqProofs only [go_sem, ↓reduceIte, Nat.reduceEqDiff, Nat.reduceLT, Nat.reduceAdd, Nat.reduceMul, Nat.reduceLeDiff, Nat.le_refl, Int.natCast_zero, Int.toNat_natCast, Int.reduceToNat]
      clear l5
      rcases hbad : (bad != 0) with _ | _
      · have hb0 : bad = 0 := by simpa using hbad
        subst hb0
        have hcut := hcut rfl
        have hR := hR rfl
        clear hbad
        have f0 : ((0 : Int) != 0) = false := rfl
        have f1 : ((0 : Int) == 0) = true := rfl
        refine Br.neg rfl ?_
        simp -dsimp -implicitDefEqProofs only [go_sem, ↓reduceIte, Nat.reduceEqDiff, Nat.reduceLT, Nat.reduceAdd, Nat.reduceMul, Nat.reduceLeDiff, Nat.le_refl, Int.natCast_zero, Int.toNat_natCast, Int.reduceToNat]
        refine sCallT_one hR ?_
        simp -dsimp -implicitDefEqProofs only [go_sem, ↓reduceIte, Nat.reduceEqDiff, Nat.reduceLT, Nat.reduceAdd, Nat.reduceMul, Nat.reduceLeDiff, Nat.le_refl, Int.natCast_zero, Int.toNat_natCast, Int.reduceToNat]
        clear hR
        refine sCallT_inl 800000 38 [.tmp 4] Tryd.func38 rfl rfl rfl rfl rfl (by exact of_decide_eq_true rfl) ?_
        simp -dsimp -implicitDefEqProofs only [go_sem, ↓reduceIte, Nat.reduceEqDiff, Nat.reduceLT, Nat.reduceAdd, Nat.reduceMul, Nat.reduceLeDiff, Nat.le_refl, Int.natCast_zero, Int.toNat_natCast, Int.reduceToNat]
        refine Later.lp [0, 5] [18] [15] (fun x : Nat × Int => x.1 ≤ bs.length) (fun x => [(6, eI x.1)]) (fun x => [(15, diceB 0 bs 0 x.2)]) (fun x => bs.length - x.1) (0, IntKind.u64.wrap (IntKind.u64.wrap (3101 * 7919) + IntKind.u64.wrap bs.length)) (Nat.zero_le _) ?_ rfl (fun x hI => ?_)
        · simp -dsimp -implicitDefEqProofs only [go_sem, ↓reduceIte, Nat.reduceEqDiff, Nat.reduceLT, Nat.reduceAdd, Nat.reduceMul, Nat.reduceLeDiff, Nat.le_refl, Int.natCast_zero, Int.toNat_natCast, Int.reduceToNat]
        · obtain ⟨i, H⟩ := x
          dsimp only at hI ⊢
          by_cases hi : i < bs.length
          · have hbt := (bs[i]).toNat_lt
            have gi := get_some hi
            have li := lt_len hi
            generalize bs[i] = b at *
            simp -dsimp -implicitDefEqProofs only [pick_nil, pick_cons, look_nil, look_cons, dropB_nil, dropB_cons, inD_nil, inD_cons, inE_nil, inE_cons, or_t_l, or_f_l, Nat.reduceBEq, Nat.reduceDiv, Nat.reduceAdd, beq_self_eq_true, Bool.false_eq_true, Bool.or_false, ↓reduceIte, Nat.reduceEqDiff, List.cons_append, List.nil_append]
            simp -dsimp -implicitDefEqProofs only [go_sem, ↓reduceIte, Nat.reduceEqDiff, Nat.reduceLT, Nat.reduceAdd, Nat.reduceMul, Nat.reduceLeDiff, Nat.le_refl, Int.natCast_zero, Int.toNat_natCast, Int.reduceToNat, li]
            refine Later.draw mixed rfl ?_
            simp -dsimp -implicitDefEqProofs only [go_sem, ↓reduceIte, Nat.reduceEqDiff, Nat.reduceLT, Nat.reduceAdd, Nat.reduceMul, Nat.reduceLeDiff, Nat.le_refl, Int.natCast_zero, Int.toNat_natCast, Int.reduceToNat, gi]
            repeat' (with_reducible refine And.intro ?_ ?_)
            all_goals try (first | omega | (refine ⟨?_, ?_⟩ <;> omega) | (exact rfl) | (simp; done) | decide)
            refine ⟨(i + 1, IntKind.u64.wrap (IntKind.u64.wrap (IntKind.u64.wrap (H * 1099511628211) + IntKind.u64.wrap (b.toNat : Int)) + 3)), hi, by dsimp only; omega, ?_⟩
            simp -dsimp -implicitDefEqProofs only [go_sem, ↓reduceIte, Nat.reduceEqDiff, Nat.reduceLT, Nat.reduceAdd, Nat.reduceMul, Nat.reduceLeDiff, Nat.le_refl, Int.natCast_zero, Int.toNat_natCast, Int.reduceToNat]
            all_goals simp
          · have hie : i = bs.length := by omega
            subst hie
            simp -dsimp -implicitDefEqProofs only [pick_nil, pick_cons, look_nil, look_cons, dropB_nil, dropB_cons, inD_nil, inD_cons, inE_nil, inE_cons, or_t_l, or_f_l, Nat.reduceBEq, Nat.reduceDiv, Nat.reduceAdd, beq_self_eq_true, Bool.false_eq_true, Bool.or_false, ↓reduceIte, Nat.reduceEqDiff, List.cons_append, List.nil_append]
            simp -dsimp -implicitDefEqProofs only [go_sem, ↓reduceIte, Nat.reduceEqDiff, Nat.reduceLT, Nat.reduceAdd, Nat.reduceMul, Nat.reduceLeDiff, Nat.le_refl, Int.natCast_zero, Int.toNat_natCast, Int.reduceToNat, nlt_len]
            clear hI hi
            refine ⟨by refine ⟨?_, ?_⟩ <;> omega, ?_⟩
            refine sCallT_io [800015] ?_
            simp -dsimp -implicitDefEqProofs only [go_sem, ↓reduceIte, Nat.reduceEqDiff, Nat.reduceLT, Nat.reduceAdd, Nat.reduceMul, Nat.reduceLeDiff, Nat.le_refl, Int.natCast_zero, Int.toNat_natCast, Int.reduceToNat]
            refine sCallM_any (c_below _ bs H ((t.length : Int) + 1) (by omega) hl) ?_
            rintro _ _ ⟨cut, ci, ch, b1, b2, rfl, rfl⟩
            simp -dsimp -implicitDefEqProofs only [go_sem, ↓reduceIte, Nat.reduceEqDiff, Nat.reduceLT, Nat.reduceAdd, Nat.reduceMul, Nat.reduceLeDiff, Nat.le_refl, Int.natCast_zero, Int.toNat_natCast, Int.reduceToNat]
            obtain ⟨cu, rfl⟩ : ∃ k : Nat, cut = k := ⟨cut.toNat, by omega⟩
            have hcu : cu ≤ t.length := by omega
            have hcn : ∀ i, (t.take i).count 10 ≤ i := fun i => Nat.le_trans List.count_le_length (by simp; omega)
            obtain ⟨w1, w2, w3⟩ := hcut cu
            have rc := c_iRecoverJournal (t.take cu) (by simp; omega)
            rw [w1, w2] at rc
            clear w1 w2 hcut
            refine Later.up [3, 4, 6, 19, 20, 21] [] [] cu (fun _ => True) (fun i => [(23, eI i), (22, eI ((t.take i).count 10))]) (fun _ => []) trivial ?_ rfl (fun i hi _ => ?_) (fun _ => ?_)
            · simp -dsimp -implicitDefEqProofs only [go_sem, ↓reduceIte, Nat.reduceEqDiff, Nat.reduceLT, Nat.reduceAdd, Nat.reduceMul, Nat.reduceLeDiff, Nat.le_refl, Int.natCast_zero, Int.toNat_natCast, Int.reduceToNat]
              all_goals simp
            · have hit : i < t.length := by omega
              have ht := get_some hit
              have hn := count_next hit
              have hci := hcn i
              have hg : t.getD i 0 = t[i] := by simp [List.getD_eq_getElem?_getD, hit]
              have lic : decide ((i : Int) < (cu : Int)) = true := decide_eq_true (by omega)
              generalize t[i] = b at *
              simp -dsimp -implicitDefEqProofs only [pick_nil, pick_cons, look_nil, look_cons, dropB_nil, dropB_cons, inD_nil, inD_cons, inE_nil, inE_cons, or_t_l, or_f_l, Nat.reduceBEq, Nat.reduceDiv, Nat.reduceAdd, beq_self_eq_true, Bool.false_eq_true, Bool.or_false, ↓reduceIte, Nat.reduceEqDiff, List.cons_append, List.nil_append]
              rw [hn]
              rcases hc : ((b.toNat : Int) == 10) with _ | _
              · simp -dsimp -implicitDefEqProofs only [go_sem, ↓reduceIte, Nat.reduceEqDiff, Nat.reduceLT, Nat.reduceAdd, Nat.reduceMul, Nat.reduceLeDiff, Nat.le_refl, Int.natCast_zero, Int.toNat_natCast, Int.reduceToNat, lic, ht, hg, hc]
                repeat' (with_reducible refine And.intro ?_ ?_)
                all_goals first | (first | omega | (refine ⟨?_, ?_⟩ <;> omega) | (exact rfl) | (simp; done) | decide) | simp
              · simp -dsimp -implicitDefEqProofs only [go_sem, ↓reduceIte, Nat.reduceEqDiff, Nat.reduceLT, Nat.reduceAdd, Nat.reduceMul, Nat.reduceLeDiff, Nat.le_refl, Int.natCast_zero, Int.toNat_natCast, Int.reduceToNat, lic, ht, hg, hc]
                repeat' (with_reducible refine And.intro ?_ ?_)
                all_goals first | (first | omega | (refine ⟨?_, ?_⟩ <;> omega) | (exact rfl) | (simp; done) | decide) | simp
            · have lic : decide ((cu : Int) < (cu : Int)) = false := decide_eq_false (by omega)
              have hci := hcn cu
              simp -dsimp -implicitDefEqProofs only [pick_nil, pick_cons, look_nil, look_cons, dropB_nil, dropB_cons, inD_nil, inD_cons, inE_nil, inE_cons, or_t_l, or_f_l, Nat.reduceBEq, Nat.reduceDiv, Nat.reduceAdd, beq_self_eq_true, Bool.false_eq_true, Bool.or_false, ↓reduceIte, Nat.reduceEqDiff, List.cons_append, List.nil_append]
              simp -dsimp -implicitDefEqProofs only [go_sem, ↓reduceIte, Nat.reduceEqDiff, Nat.reduceLT, Nat.reduceAdd, Nat.reduceMul, Nat.reduceLeDiff, Nat.le_refl, Int.natCast_zero, Int.toNat_natCast, Int.reduceToNat, lic]
              repeat' (with_reducible refine And.intro ?_ ?_)
              all_goals try first | (first | omega | (refine ⟨?_, ?_⟩ <;> omega) | (exact rfl) | (simp; done) | decide) | (simp; omega)
              refine sCallT_one rc ?_
              have cl1 := c_likeEvents es es (by omega)
              have cl2 := c_likeEvents (es.take ((t.take cu).count 10)) (es.take ((t.take cu).count 10)) (by simp; omega)
              generalize (t.take cu).count 10 = m at *
              have g2 : List.take m (List.map eEv es) = List.map eEv (es.take m) := by rw [List.map_take]
              have g4 : (es.take m).length = m := by simp; omega
              simp -dsimp -implicitDefEqProofs only [go_sem, ↓reduceIte, Nat.reduceEqDiff, Nat.reduceLT, Nat.reduceAdd, Nat.reduceMul, Nat.reduceLeDiff, Nat.le_refl, Int.natCast_zero, Int.toNat_natCast, Int.reduceToNat, f1]
              repeat' first
                | (with_reducible refine And.intro ?_ ?_)
                | (refine sCallT_one cl1 ?_; simp -dsimp -implicitDefEqProofs only [go_sem, ↓reduceIte, Nat.reduceEqDiff, Nat.reduceLT, Nat.reduceAdd, Nat.reduceMul, Nat.reduceLeDiff, Nat.le_refl, Int.natCast_zero, Int.toNat_natCast, Int.reduceToNat, f1])
              all_goals try (first | omega | (refine ⟨?_, ?_⟩ <;> omega) | (exact rfl) | (simp; done) | decide)
              rw [show min (min m es.length) m = m by omega, g2]
              refine sCallT_one cl2 ?_
              simp -dsimp -implicitDefEqProofs only [go_sem, ↓reduceIte, Nat.reduceEqDiff, Nat.reduceLT, Nat.reduceAdd, Nat.reduceMul, Nat.reduceLeDiff, Nat.le_refl, Int.natCast_zero, Int.toNat_natCast, Int.reduceToNat]
              repeat' (with_reducible refine And.intro ?_ ?_)
              all_goals (first | omega | (refine ⟨?_, ?_⟩ <;> omega) | (exact rfl) | (simp; done) | decide)
      · clear hcut hR
        refine Br.pos rfl ?_
        simp -dsimp -implicitDefEqProofs only [go_sem, ↓reduceIte, Nat.reduceEqDiff, Nat.reduceLT, Nat.reduceAdd, Nat.reduceMul, Nat.reduceLeDiff, Nat.le_refl, Int.natCast_zero, Int.toNat_natCast, Int.reduceToNat]
        repeat' (with_reducible refine And.intro ?_ ?_)
        all_goals (first | omega | (refine ⟨?_, ?_⟩ <;> omega) | (exact rfl) | (simp; done) | decide)
    · obtain ⟨m1, m2⟩ := l5 (by simpa using hf)
      have k1 : decide (n > (s.length : Int)) = false := decide_eq_false (by omega)
      have k2 : (!((three == 0) == (n == (s.length : Int)))) = false := by rw [m2]; simp
      refine Br.pos rfl ?_
      simp -dsimp -implicitDefEqProofs only [go_sem, ↓reduceIte, Nat.reduceEqDiff, Nat.reduceLT, Nat.reduceAdd, Nat.reduceMul, Nat.reduceLeDiff, Nat.le_refl, Int.natCast_zero, Int.toNat_natCast, Int.reduceToNat, k1, k2]
      clear l5
      rcases hbad : (bad != 0) with _ | _
      · have hb0 : bad = 0 := by simpa using hbad
        subst hb0
        have hcut := hcut rfl
        have hR := hR rfl
        clear hbad
        have f0 : ((0 : Int) != 0) = false := rfl
        have f1 : ((0 : Int) == 0) = true := rfl
        refine Br.neg rfl ?_
        simp -dsimp -implicitDefEqProofs only [go_sem, ↓reduceIte, Nat.reduceEqDiff, Nat.reduceLT, Nat.reduceAdd, Nat.reduceMul, Nat.reduceLeDiff, Nat.le_refl, Int.natCast_zero, Int.toNat_natCast, Int.reduceToNat]
        refine sCallT_one hR ?_
        simp -dsimp -implicitDefEqProofs only [go_sem, ↓reduceIte, Nat.reduceEqDiff, Nat.reduceLT, Nat.reduceAdd, Nat.reduceMul, Nat.reduceLeDiff, Nat.le_refl, Int.natCast_zero, Int.toNat_natCast, Int.reduceToNat]
        clear hR
        refine sCallT_inl 800000 38 [.tmp 4] Tryd.func38 rfl rfl rfl rfl rfl (by exact of_decide_eq_true rfl) ?_
        simp -dsimp -implicitDefEqProofs only [go_sem, ↓reduceIte, Nat.reduceEqDiff, Nat.reduceLT, Nat.reduceAdd, Nat.reduceMul, Nat.reduceLeDiff, Nat.le_refl, Int.natCast_zero, Int.toNat_natCast, Int.reduceToNat]
        refine Later.lp [0, 5] [18] [15] (fun x : Nat × Int => x.1 ≤ bs.length) (fun x => [(6, eI x.1)]) (fun x => [(15, diceB 0 bs 0 x.2)]) (fun x => bs.length - x.1) (0, IntKind.u64.wrap (IntKind.u64.wrap (3101 * 7919) + IntKind.u64.wrap bs.length)) (Nat.zero_le _) ?_ rfl (fun x hI => ?_)
        · simp -dsimp -implicitDefEqProofs only [go_sem, ↓reduceIte, Nat.reduceEqDiff, Nat.reduceLT, Nat.reduceAdd, Nat.reduceMul, Nat.reduceLeDiff, Nat.le_refl, Int.natCast_zero, Int.toNat_natCast, Int.reduceToNat]
        · obtain ⟨i, H⟩ := x
          dsimp only at hI ⊢
          by_cases hi : i < bs.length
          · have hbt := (bs[i]).toNat_lt
            have gi := get_some hi
            have li := lt_len hi
            generalize bs[i] = b at *
            simp -dsimp -implicitDefEqProofs only [pick_nil, pick_cons, look_nil, look_cons, dropB_nil, dropB_cons, inD_nil, inD_cons, inE_nil, inE_cons, or_t_l, or_f_l, Nat.reduceBEq, Nat.reduceDiv, Nat.reduceAdd, beq_self_eq_true, Bool.false_eq_true, Bool.or_false, ↓reduceIte, Nat.reduceEqDiff, List.cons_append, List.nil_append]
            simp -dsimp -implicitDefEqProofs only [go_sem, ↓reduceIte, Nat.reduceEqDiff, Nat.reduceLT, Nat.reduceAdd, Nat.reduceMul, Nat.reduceLeDiff, Nat.le_refl, Int.natCast_zero, Int.toNat_natCast, Int.reduceToNat, li]
            refine Later.draw mixed rfl ?_
            simp -dsimp -implicitDefEqProofs only [go_sem, ↓reduceIte, Nat.reduceEqDiff, Nat.reduceLT, Nat.reduceAdd, Nat.reduceMul, Nat.reduceLeDiff, Nat.le_refl, Int.natCast_zero, Int.toNat_natCast, Int.reduceToNat, gi]
            repeat' (with_reducible refine And.intro ?_ ?_)
            all_goals try (first | omega | (refine ⟨?_, ?_⟩ <;> omega) | (exact rfl) | (simp; done) | decide)
            refine ⟨(i + 1, IntKind.u64.wrap (IntKind.u64.wrap (IntKind.u64.wrap (H * 1099511628211) + IntKind.u64.wrap (b.toNat : Int)) + 3)), hi, by dsimp only; omega, ?_⟩
            simp -dsimp -implicitDefEqProofs only [go_sem, ↓reduceIte, Nat.reduceEqDiff, Nat.reduceLT, Nat.reduceAdd, Nat.reduceMul, Nat.reduceLeDiff, Nat.le_refl, Int.natCast_zero, Int.toNat_natCast, Int.reduceToNat]
            all_goals simp
          · have hie : i = bs.length := by omega
            subst hie
            simp -dsimp -implicitDefEqProofs only [pick_nil, pick_cons, look_nil, look_cons, dropB_nil, dropB_cons, inD_nil, inD_cons, inE_nil, inE_cons, or_t_l, or_f_l, Nat.reduceBEq, Nat.reduceDiv, Nat.reduceAdd, beq_self_eq_true, Bool.false_eq_true, Bool.or_false, ↓reduceIte, Nat.reduceEqDiff, List.cons_append, List.nil_append]
            simp -dsimp -implicitDefEqProofs only [go_sem, ↓reduceIte, Nat.reduceEqDiff, Nat.reduceLT, Nat.reduceAdd, Nat.reduceMul, Nat.reduceLeDiff, Nat.le_refl, Int.natCast_zero, Int.toNat_natCast, Int.reduceToNat, nlt_len]
            clear hI hi
            refine ⟨by refine ⟨?_, ?_⟩ <;> omega, ?_⟩
            refine sCallT_io [800015] ?_
            simp -dsimp -implicitDefEqProofs only [go_sem, ↓reduceIte, Nat.reduceEqDiff, Nat.reduceLT, Nat.reduceAdd, Nat.reduceMul, Nat.reduceLeDiff, Nat.le_refl, Int.natCast_zero, Int.toNat_natCast, Int.reduceToNat]
            refine sCallM_any (c_below _ bs H ((t.length : Int) + 1) (by omega) hl) ?_
            rintro _ _ ⟨cut, ci, ch, b1, b2, rfl, rfl⟩
            simp -dsimp -implicitDefEqProofs only [go_sem, ↓reduceIte, Nat.reduceEqDiff, Nat.reduceLT, Nat.reduceAdd, Nat.reduceMul, Nat.reduceLeDiff, Nat.le_refl, Int.natCast_zero, Int.toNat_natCast, Int.reduceToNat]
            obtain ⟨cu, rfl⟩ : ∃ k : Nat, cut = k := ⟨cut.toNat, by omega⟩
            have hcu : cu ≤ t.length := by omega
            have hcn : ∀ i, (t.take i).count 10 ≤ i := fun i => Nat.le_trans List.count_le_length (by simp; omega)
            obtain ⟨w1, w2, w3⟩ := hcut cu
            have rc := c_iRecoverJournal (t.take cu) (by simp; omega)
            rw [w1, w2] at rc
            clear w1 w2 hcut
            refine Later.up [3, 4, 6, 19, 20, 21] [] [] cu (fun _ => True) (fun i => [(23, eI i), (22, eI ((t.take i).count 10))]) (fun _ => []) trivial ?_ rfl (fun i hi _ => ?_) (fun _ => ?_)
            · simp -dsimp -implicitDefEqProofs only [go_sem, ↓reduceIte, Nat.reduceEqDiff, Nat.reduceLT, Nat.reduceAdd, Nat.reduceMul, Nat.reduceLeDiff, Nat.le_refl, Int.natCast_zero, Int.toNat_natCast, Int.reduceToNat]
              all_goals simp
            · have hit : i < t.length := by omega
              have ht := get_some hit
              have hn := count_next hit
              have hci := hcn i
              have hg : t.getD i 0 = t[i] := by simp [List.getD_eq_getElem?_getD, hit]
              have lic : decide ((i : Int) < (cu : Int)) = true := decide_eq_true (by omega)
              generalize t[i] = b at *
              simp -dsimp -implicitDefEqProofs only [pick_nil, pick_cons, look_nil, look_cons, dropB_nil, dropB_cons, inD_nil, inD_cons, inE_nil, inE_cons, or_t_l, or_f_l, Nat.reduceBEq, Nat.reduceDiv, Nat.reduceAdd, beq_self_eq_true, Bool.false_eq_true, Bool.or_false, ↓reduceIte, Nat.reduceEqDiff, List.cons_append, List.nil_append]
              rw [hn]
              rcases hc : ((b.toNat : Int) == 10) with _ | _
              · simp -dsimp -implicitDefEqProofs only [go_sem, ↓reduceIte, Nat.reduceEqDiff, Nat.reduceLT, Nat.reduceAdd, Nat.reduceMul, Nat.reduceLeDiff, Nat.le_refl, Int.natCast_zero, Int.toNat_natCast, Int.reduceToNat, lic, ht, hg, hc]
                repeat' (with_reducible refine And.intro ?_ ?_)
                all_goals first | (first | omega | (refine ⟨?_, ?_⟩ <;> omega) | (exact rfl) | (simp; done) | decide) | simp
              · simp -dsimp -implicitDefEqProofs only [go_sem, ↓reduceIte, Nat.reduceEqDiff, Nat.reduceLT, Nat.reduceAdd, Nat.reduceMul, Nat.reduceLeDiff, Nat.le_refl, Int.natCast_zero, Int.toNat_natCast, Int.reduceToNat, lic, ht, hg, hc]
                repeat' (with_reducible refine And.intro ?_ ?_)
                all_goals first | (first | omega | (refine ⟨?_, ?_⟩ <;> omega) | (exact rfl) | (simp; done) | decide) | simp
            · have lic : decide ((cu : Int) < (cu : Int)) = false := decide_eq_false (by omega)
              have hci := hcn cu
              simp -dsimp -implicitDefEqProofs only [pick_nil, pick_cons, look_nil, look_cons, dropB_nil, dropB_cons, inD_nil, inD_cons, inE_nil, inE_cons, or_t_l, or_f_l, Nat.reduceBEq, Nat.reduceDiv, Nat.reduceAdd, beq_self_eq_true, Bool.false_eq_true, Bool.or_false, ↓reduceIte, Nat.reduceEqDiff, List.cons_append, List.nil_append]
              simp -dsimp -implicitDefEqProofs only [go_sem, ↓reduceIte, Nat.reduceEqDiff, Nat.reduceLT, Nat.reduceAdd, Nat.reduceMul, Nat.reduceLeDiff, Nat.le_refl, Int.natCast_zero, Int.toNat_natCast, Int.reduceToNat, lic]
              repeat' (with_reducible refine And.intro ?_ ?_)
              all_goals try first | (first | omega | (refine ⟨?_, ?_⟩ <;> omega) | (exact rfl) | (simp; done) | decide) | (simp; omega)
              refine sCallT_one rc ?_
              have cl1 := c_likeEvents es es (by omega)
              have cl2 := c_likeEvents (es.take ((t.take cu).count 10)) (es.take ((t.take cu).count 10)) (by simp; omega)
              generalize (t.take cu).count 10 = m at *
              have g2 : List.take m (List.map eEv es) = List.map eEv (es.take m) := by rw [List.map_take]
              have g4 : (es.take m).length = m := by simp; omega
              simp -dsimp -implicitDefEqProofs only [go_sem, ↓reduceIte, Nat.reduceEqDiff, Nat.reduceLT, Nat.reduceAdd, Nat.reduceMul, Nat.reduceLeDiff, Nat.le_refl, Int.natCast_zero, Int.toNat_natCast, Int.reduceToNat, f1]
              repeat' first
                | (with_reducible refine And.intro ?_ ?_)
                | (refine sCallT_one cl1 ?_; simp -dsimp -implicitDefEqProofs only [go_sem, ↓reduceIte, Nat.reduceEqDiff, Nat.reduceLT, Nat.reduceAdd, Nat.reduceMul, Nat.reduceLeDiff, Nat.le_refl, Int.natCast_zero, Int.toNat_natCast, Int.reduceToNat, f1])
              all_goals try (first | omega | (refine ⟨?_, ?_⟩ <;> omega) | (exact rfl) | (simp; done) | decide)
              rw [show min (min m es.length) m = m by omega, g2]
              refine sCallT_one cl2 ?_
              simp -dsimp -implicitDefEqProofs only [go_sem, ↓reduceIte, Nat.reduceEqDiff, Nat.reduceLT, Nat.reduceAdd, Nat.reduceMul, Nat.reduceLeDiff, Nat.le_refl, Int.natCast_zero, Int.toNat_natCast, Int.reduceToNat]
              repeat' (with_reducible refine And.intro ?_ ?_)
              all_goals (first | omega | (refine ⟨?_, ?_⟩ <;> omega) | (exact rfl) | (simp; done) | decide)
      · clear hcut hR
        refine Br.pos rfl ?_
        simp -dsimp -implicitDefEqProofs only [go_sem, ↓reduceIte, Nat.reduceEqDiff, Nat.reduceLT, Nat.reduceAdd, Nat.reduceMul, Nat.reduceLeDiff, Nat.le_refl, Int.natCast_zero, Int.toNat_natCast, Int.reduceToNat]
        repeat' (with_reducible refine And.intro ?_ ?_)
        all_goals (first | omega | (refine ⟨?_, ?_⟩ <;> omega) | (exact rfl) | (simp; done) | decide)
  · simp -dsimp -implicitDefEqProofs only [go_sem, ↓reduceIte, Nat.reduceEqDiff, Nat.reduceLT, Nat.reduceAdd, Nat.reduceMul, Nat.reduceLeDiff, Nat.le_refl, Int.natCast_zero, Int.toNat_natCast, Int.reduceToNat, hb]
    repeat' (with_reducible refine And.intro ?_ ?_)
    all_goals (first | omega | (refine ⟨?_, ?_⟩ <;> omega) | (exact rfl) | (simp; done) | decide)
end Go.Vc
