/-
  Contracts: numbers sorted, the different ones of them.
-/
import Derived.Test.YtphhlffifljciaaDiff
import Derived.Test.YtphhlffifljciaaVcSort
import Derived.Test.YtphhlffifljciaaLay
set_option linter.unusedVariables false
set_option linter.unusedSimpArgs false
set_option linter.unnecessarySimpa false
namespace Go.Vc
open Go.Proofs
set_option maxRecDepth 100000
theorem c_SortI (v : Nat) (zs : List Int) (h : zs.length ≤ 1048576) : FnM Try.prog 79 [.row v ⟨1, false⟩ true (zs.map eI)] [.ref 1000000000 v 0 zs.length] (fun r io => r = .tup [] ∧ io = [.row v ⟨1, false⟩ true ((zs.mergeSort fun x y => decide (x ≤ y)).map eI)]) :=
  FnM.sortRow ⟨_, _, Try.func79, by rfl, rfl⟩ (fun zs => zs.mergeSort fun x y => decide (x ≤ y)) (fun zs => List.length_mergeSort zs)
    (fun blk cap zs w hH hb hs => AnyG.slices_Sort_int Try.laySort blk 0 cap zs w hH hb hs) (fun a w => AnyG.slices_Sort_int_none Try.laySort a 0 w) v zs h
theorem compact_len (zs : List Int) : (Lib.compact zs).length ≤ zs.length := by
  unfold Lib.compact Lib.compactUpTo
  rw [List.length_map]
  exact Nat.le_trans (List.length_filter_le _ _) (by simp)
theorem s_CompactI {d l ver n : Nat} {zs : List Int} {xt : List AV} {m : Mem} {k : AV → Mem → Prop} {q : Pack k} (hlk : lookB m l = some (.row ver ⟨1, false⟩ true (zs.map eI))) (hn : n = zs.length) (hz : zs.length ≤ 1048576)
    (hk : k (.ref l (ver + 1) 0 (Lib.compact zs).length) ((l, .row (ver + 1) ⟨1, false⟩ true ((Lib.compact zs ++ List.replicate (zs.length - (Lib.compact zs).length) 0).map eI)) :: m)) :
    sCallT Try.prog 80 d [.ref l ver 0 n] xt m k q :=
  sCallT_ints (Lib.compact zs).length ⟨_, _, Try.func80, by rfl, rfl⟩ hlk hn (ys := Lib.compact zs ++ List.replicate (zs.length - (Lib.compact zs).length) 0) (by have := compact_len zs; simp; omega) (compact_len zs) hz
    (fun blk cap w hH hc => AnyG.slices_Compact_int Try.layCompact blk 0 cap zs w hH (by omega) hc) (fun a w => AnyG.slices_Compact_int_empty Try.layCompact a 0 w) hk
theorem c_rowsOf (xs : List Int) (h : xs.length ≤ 1048576) : Fn Try.prog 63 [eIs xs] true (· = eIs (rowsL xs)) := by
  refine Fn.of_vcN 10 [.tmp 2] Try.func63 rfl rfl rfl rfl rfl (of_decide_eq_true rfl) ?_
  simp -dsimp -implicitDefEqProofs only [go_sem, ↓reduceIte, Nat.reduceEqDiff, Nat.reduceLT, Nat.reduceAdd, Nat.reduceMul, Nat.reduceLeDiff, Nat.le_refl, Int.natCast_zero, Int.toNat_natCast, Int.reduceToNat]
  repeat' (refine sCallT_one (c_CloneI xs h) ?_; try simp -dsimp -implicitDefEqProofs only [go_sem, ↓reduceIte, Nat.reduceEqDiff, Nat.reduceLT, Nat.reduceAdd, Nat.reduceMul, Nat.reduceLeDiff, Nat.le_refl, Int.natCast_zero, Int.toNat_natCast, Int.reduceToNat, *])
  refine sCallT_io [6000] ?_
  simp -dsimp -implicitDefEqProofs only [go_sem, ↓reduceIte, Nat.reduceEqDiff, Nat.reduceLT, Nat.reduceAdd, Nat.reduceMul, Nat.reduceLeDiff, Nat.le_refl, Int.natCast_zero, Int.toNat_natCast, Int.reduceToNat]
  refine sCallM_one (c_SortI 0 xs h) ?_
  simp -dsimp -implicitDefEqProofs only [go_sem, ↓reduceIte, Nat.reduceEqDiff, Nat.reduceLT, Nat.reduceAdd, Nat.reduceMul, Nat.reduceLeDiff, Nat.le_refl, Int.natCast_zero, Int.toNat_natCast, Int.reduceToNat]
  refine ⟨by simp, ?_⟩
  refine s_CompactI (zs := xs.mergeSort fun x y => decide (x ≤ y)) ?_ ?_ ?_ ?_
  · simp -dsimp -implicitDefEqProofs only [go_sem, ↓reduceIte, Nat.reduceEqDiff, Nat.reduceLT, Nat.reduceAdd, Nat.reduceMul, Nat.reduceLeDiff, Nat.le_refl, Int.natCast_zero, Int.toNat_natCast, Int.reduceToNat]
  · simp
  · simpa using h
  simp -dsimp -implicitDefEqProofs only [go_sem, ↓reduceIte, Nat.reduceEqDiff, Nat.reduceLT, Nat.reduceAdd, Nat.reduceMul, Nat.reduceLeDiff, Nat.le_refl, Int.natCast_zero, Int.toNat_natCast, Int.reduceToNat]
  repeat' (with_reducible refine And.intro ?_ ?_)
  all_goals first
    | omega | (refine ⟨?_, ?_⟩ <;> omega) | (simp; done) | (simp; omega)
    | (rw [rowsL_eq]; simp; done)
    | trace_state
theorem c_l18Different (xs : List Int) (h : xs.length ≤ 1048576) (h0 : ∀ x ∈ xs, 0 ≤ x) : Fn Try.prog 64 [eIs xs] true (· = eIs (rowsL xs)) := by
  refine Fn.of_vcN 52 [.tmp 2] Try.func64 rfl rfl rfl rfl rfl (of_decide_eq_true rfl) ?_
  have hlen := rowsL_len xs
  simp -dsimp -implicitDefEqProofs only [go_sem, ↓reduceIte, Nat.reduceEqDiff, Nat.reduceLT, Nat.reduceAdd, Nat.reduceMul, Nat.reduceLeDiff, Nat.le_refl, Int.natCast_zero, Int.toNat_natCast, Int.reduceToNat]
  repeat' (with_reducible refine And.intro ?_ ?_)
  all_goals try omega
  refine Later.lp [0] [9, 14, 23, 50, 51] [6] (fun k : Nat => k ≤ (rowsL xs).length) (fun k => [(3, .ref 6 0 0 k)]) (fun k => [(6, .row 0 ⟨1, false⟩ true (((rowsL xs).take k).map eI))]) (fun k => (rowsL xs).length - k) 0 (Nat.zero_le _) ?_ rfl (fun k hk => ?_)
  · simp -dsimp -implicitDefEqProofs only [go_sem, ↓reduceIte, Nat.reduceEqDiff, Nat.reduceLT, Nat.reduceAdd, Nat.reduceMul, Nat.reduceLeDiff, Nat.le_refl, Int.natCast_zero, Int.toNat_natCast, Int.reduceToNat]
    all_goals simp
  · have hm : min k (rowsL xs).length = k := by omega
    simp -dsimp -implicitDefEqProofs only [pick_nil, pick_cons, look_nil, look_cons, dropB_nil, dropB_cons, inD_nil, inD_cons, inE_nil, inE_cons, or_t_l, or_f_l, Nat.reduceBEq, Nat.reduceDiv, Nat.reduceAdd, beq_self_eq_true, Bool.false_eq_true, Bool.or_false, ↓reduceIte, Nat.reduceEqDiff, List.cons_append, List.nil_append]
    simp -dsimp -implicitDefEqProofs only [go_sem, ↓reduceIte, Nat.reduceEqDiff, Nat.reduceLT, Nat.reduceAdd, Nat.reduceMul, Nat.reduceLeDiff, Nat.le_refl, Int.natCast_zero, Int.toNat_natCast, Int.reduceToNat]
    refine Later.up [0, 3] [9, 14, 23] [] xs.length (fun _ => True) (fun i => [(5, eI i), (4, eI (leastN xs k i))]) (fun _ => []) trivial ?_ rfl (fun i hi _ => ?_) (fun _ => ?_)
    · simp -dsimp -implicitDefEqProofs only [go_sem, ↓reduceIte, Nat.reduceEqDiff, Nat.reduceLT, Nat.reduceAdd, Nat.reduceMul, Nat.reduceLeDiff, Nat.le_refl, Int.natCast_zero, Int.toNat_natCast, Int.reduceToNat, leastN_zero]
    · have gi := get_some hi
      have li := lt_len hi
      have hs := leastN_succ xs k i hi
      have hx := h0 xs[i] (List.getElem_mem hi)
      rcases Nat.eq_zero_or_pos k with hk0 | hk0
      · have hc : cand (rowsL xs) k xs[i] = true := by simp [cand, hk0]
        have hd : (((k : Nat) : Int) == 0) = true := by simp [hk0]
        rw [leastSt, hc, Bool.true_and] at hs
        clear hc
        simp -dsimp -implicitDefEqProofs only [pick_nil, pick_cons, look_nil, look_cons, dropB_nil, dropB_cons, inD_nil, inD_cons, inE_nil, inE_cons, or_t_l, or_f_l, Nat.reduceBEq, Nat.reduceDiv, Nat.reduceAdd, beq_self_eq_true, Bool.false_eq_true, Bool.or_false, ↓reduceIte, Nat.reduceEqDiff, List.cons_append, List.nil_append]
        rw [hs]
        clear hs
        simp -dsimp -implicitDefEqProofs only [go_sem, ↓reduceIte, Nat.reduceEqDiff, Nat.reduceLT, Nat.reduceAdd, Nat.reduceMul, Nat.reduceLeDiff, Nat.le_refl, Int.natCast_zero, Int.toNat_natCast, Int.reduceToNat, li, gi, hd, hm]
        repeat' first
          | (refine Br.intro (fun _ => ?_) (fun _ => ?_) <;> try simp -dsimp -implicitDefEqProofs only [go_sem, ↓reduceIte, Nat.reduceEqDiff, Nat.reduceLT, Nat.reduceAdd, Nat.reduceMul, Nat.reduceLeDiff, Nat.le_refl, Int.natCast_zero, Int.toNat_natCast, Int.reduceToNat, *])
          | (with_reducible refine And.intro ?_ ?_)
          | (refine Later.draw mixed rfl ?_; simp -dsimp -implicitDefEqProofs only [go_sem, ↓reduceIte, Nat.reduceEqDiff, Nat.reduceLT, Nat.reduceAdd, Nat.reduceMul, Nat.reduceLeDiff, Nat.le_refl, Int.natCast_zero, Int.toNat_natCast, Int.reduceToNat, li, gi, hd, hm])
        all_goals first
          | omega
          | (refine ⟨?_, ?_⟩ <;> omega)
          | rfl
          | (simp_all; done)
          | (simp_all; omega)
          | trace_state
      · have hk1 : k - 1 < (rowsL xs).length := by omega
        have gk : (((rowsL xs).map eI).take k)[((k : Int) - 1).toNat]? = some (eI (rowsL xs)[k - 1]) := by
          rw [pred_toNat hk0, List.getElem?_take_of_lt (by omega), List.getElem?_map, List.getElem?_eq_getElem hk1]; rfl
        have hc : cand (rowsL xs) k xs[i] = decide (xs[i] > (rowsL xs)[k - 1]) := by
          have : (k == 0) = false := by simp; omega
          simp [cand, this, List.getD_eq_getElem?_getD, hk1]
        have hd : (((k : Nat) : Int) == 0) = false := by simp; omega
        rw [leastSt, hc] at hs
        clear hc
        simp -dsimp -implicitDefEqProofs only [pick_nil, pick_cons, look_nil, look_cons, dropB_nil, dropB_cons, inD_nil, inD_cons, inE_nil, inE_cons, or_t_l, or_f_l, Nat.reduceBEq, Nat.reduceDiv, Nat.reduceAdd, beq_self_eq_true, Bool.false_eq_true, Bool.or_false, ↓reduceIte, Nat.reduceEqDiff, List.cons_append, List.nil_append]
        rw [hs]
        clear hs
        simp -dsimp -implicitDefEqProofs only [go_sem, ↓reduceIte, Nat.reduceEqDiff, Nat.reduceLT, Nat.reduceAdd, Nat.reduceMul, Nat.reduceLeDiff, Nat.le_refl, Int.natCast_zero, Int.toNat_natCast, Int.reduceToNat, li, gi, hd, hm, gk]
        repeat' first
          | (refine Br.intro (fun _ => ?_) (fun _ => ?_) <;> try simp -dsimp -implicitDefEqProofs only [go_sem, ↓reduceIte, Nat.reduceEqDiff, Nat.reduceLT, Nat.reduceAdd, Nat.reduceMul, Nat.reduceLeDiff, Nat.le_refl, Int.natCast_zero, Int.toNat_natCast, Int.reduceToNat, *])
          | (with_reducible refine And.intro ?_ ?_)
          | (refine Later.draw mixed rfl ?_; simp -dsimp -implicitDefEqProofs only [go_sem, ↓reduceIte, Nat.reduceEqDiff, Nat.reduceLT, Nat.reduceAdd, Nat.reduceMul, Nat.reduceLeDiff, Nat.le_refl, Int.natCast_zero, Int.toNat_natCast, Int.reduceToNat, li, gi, hd, hm, gk])
        all_goals first
          | omega
          | (refine ⟨?_, ?_⟩ <;> omega)
          | rfl
          | (simp_all; done)
          | (simp_all; omega)
          | trace_state
    · have hL := leastN_len xs h0 k hk
      rcases Nat.lt_or_ge k (rowsL xs).length with hk2 | hk2
      · rw [dif_pos hk2] at hL
        have hpos := h0 _ ((rowsL_mem xs _).1 (List.getElem_mem hk2))
        have hn : decide ((rowsL xs)[k] < 0) = false := by simp; omega
        simp -dsimp -implicitDefEqProofs only [pick_nil, pick_cons, look_nil, look_cons, dropB_nil, dropB_cons, inD_nil, inD_cons, inE_nil, inE_cons, or_t_l, or_f_l, Nat.reduceBEq, Nat.reduceDiv, Nat.reduceAdd, beq_self_eq_true, Bool.false_eq_true, Bool.or_false, ↓reduceIte, Nat.reduceEqDiff, List.cons_append, List.nil_append]
        rw [hL]
        clear hL
        simp -dsimp -implicitDefEqProofs only [go_sem, ↓reduceIte, Nat.reduceEqDiff, Nat.reduceLT, Nat.reduceAdd, Nat.reduceMul, Nat.reduceLeDiff, Nat.le_refl, Int.natCast_zero, Int.toNat_natCast, Int.reduceToNat, nlt_len, hn, hm]
        repeat' first
          | (refine Br.intro (fun _ => ?_) (fun _ => ?_) <;> try simp -dsimp -implicitDefEqProofs only [go_sem, ↓reduceIte, Nat.reduceEqDiff, Nat.reduceLT, Nat.reduceAdd, Nat.reduceMul, Nat.reduceLeDiff, Nat.le_refl, Int.natCast_zero, Int.toNat_natCast, Int.reduceToNat, *])
          | (with_reducible refine And.intro ?_ ?_)
        all_goals first
          | omega
          | rfl
          | (simp; done)
          | exact take_map_snoc eI hk2
          | (refine ⟨k + 1, by omega, by omega, ?_⟩
             simp -dsimp -implicitDefEqProofs only [go_sem, ↓reduceIte, Nat.reduceEqDiff, Nat.reduceLT, Nat.reduceAdd, Nat.reduceMul, Nat.reduceLeDiff, Nat.le_refl, Int.natCast_zero, Int.toNat_natCast, Int.reduceToNat, hm]
             repeat' (with_reducible refine And.intro ?_ ?_)
             all_goals first
               | omega
               | rfl
               | (simp; done)
               | exact take_map_snoc eI hk2
               | trace_state)
          | trace_state
      · rw [dif_neg (by omega)] at hL
        have : k = (rowsL xs).length := by omega
        subst this
        simp -dsimp -implicitDefEqProofs only [pick_nil, pick_cons, look_nil, look_cons, dropB_nil, dropB_cons, inD_nil, inD_cons, inE_nil, inE_cons, or_t_l, or_f_l, Nat.reduceBEq, Nat.reduceDiv, Nat.reduceAdd, beq_self_eq_true, Bool.false_eq_true, Bool.or_false, ↓reduceIte, Nat.reduceEqDiff, List.cons_append, List.nil_append]
        rw [hL]
        clear hL
        simp -dsimp -implicitDefEqProofs only [go_sem, ↓reduceIte, Nat.reduceEqDiff, Nat.reduceLT, Nat.reduceAdd, Nat.reduceMul, Nat.reduceLeDiff, Nat.le_refl, Int.natCast_zero, Int.toNat_natCast, Int.reduceToNat, nlt_len]
        repeat' first
          | (refine Br.intro (fun _ => ?_) (fun _ => ?_) <;> try simp -dsimp -implicitDefEqProofs only [go_sem, ↓reduceIte, Nat.reduceEqDiff, Nat.reduceLT, Nat.reduceAdd, Nat.reduceMul, Nat.reduceLeDiff, Nat.le_refl, Int.natCast_zero, Int.toNat_natCast, Int.reduceToNat, *])
          | (with_reducible refine And.intro ?_ ?_)
        all_goals first
          | omega
          | rfl
          | (simp; done)
          | (simp_all; done)
          | trace_state
end Go.Vc
