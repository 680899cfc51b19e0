import Derived.Test.YthdheoafaakbbaaGreatPkLawOrderKeysE
open Bool renaming false_eq_true → uq0
open List renaming cons_append → uq1, nil_append → uq2
set_option linter.unusedVariables false
set_option linter.unusedSimpArgs false
set_option linter.unnecessarySimpa false
namespace Go.Vc
open Go.Proofs
set_option maxRecDepth 100000
set_option maxHeartbeats 4000000
theorem c_opens (l : List (List Int)) (c : List Int) (h0 : c.length ≤ l.length) (h1 : l.length ≤ 1048576) (h2 : ∀ x ∈ l, x.length ≤ 1048576) : Fn Tryz.prog 139 [eLk l, eIs c] true (· = eB (opensL l c)) := by
  refine Fn.of_vcN 23 [.tmp 4] Tryz.func139 rfl rfl rfl rfl rfl (of_decide_eq_true rfl) ?_
  simp -dsimp -implicitDefEqProofs only [go_sem, ↓reduceIte]
  refine Later.up [2, 7, 8] [20] [] c.length (fun i => ((List.range i).all fun i => has (l.getD i []) (c.getD i 0)) = true) (fun i => [(9, eI i)]) (fun _ => []) rfl ?_ rfl (fun i hi hI => ?_) (fun hI => ?_)
  · simp -dsimp -implicitDefEqProofs only [go_sem, ↓reduceIte]
  · have gi := get_some (show i < l.length by omega)
    have gc := get_some hi
    have li := lt_len hi
    have hp : has (l.getD i []) (c.getD i 0) = has l[i] c[i] := by simp [List.getD_eq_getElem?_getD, hi, show i < l.length by omega]
    have hq := c_Contains l[i] c[i] (h2 _ (List.getElem_mem _))
    have no : has l[i] c[i] = false → opensL l c = false := fun h => range_all_no hi (by rw [hp]; exact h)
    have yes : has l[i] c[i] = true → ((List.range (i + 1)).all fun i => has (l.getD i []) (c.getD i 0)) = true := fun h => by rw [range_all_succ, hI, hp, h]; rfl
    clear hp hI
    generalize l[i] = x at *
    generalize c[i] = z at *
    simp -dsimp -implicitDefEqProofs only [pick_nil, pick_cons, look_nil, look_cons, dropB_nil, dropB_cons, inD_nil, inD_cons, inE_nil, inE_cons, or_t_l, or_f_l, Nat.reduceBEq, Nat.reduceDiv, Nat.reduceAdd, beq_self_eq_true, uq0, Bool.or_false, ↓reduceIte, Nat.reduceEqDiff, uq1, uq2]
    simp -dsimp -implicitDefEqProofs only [go_sem, ↓reduceIte, gi, gc, li]
    ((repeat' (with_reducible refine And.intro ?_ ?_)); all_goals try (first | omega | (refine ⟨?_, ?_⟩ <;> omega) | (exact rfl)))
    refine sCallT_one hq ?_
    rcases hb : has x z with _ | _
    · rw [no hb]
      simp -dsimp -implicitDefEqProofs only [go_sem, ↓reduceIte]
    · simp -dsimp -implicitDefEqProofs only [go_sem, ↓reduceIte]
      refine ⟨⟨by omega, by omega⟩, ?_, rfl⟩
      rw [← List.range_succ]
      exact yes hb
  · simp -dsimp -implicitDefEqProofs only [pick_nil, pick_cons, look_nil, look_cons, dropB_nil, dropB_cons, inD_nil, inD_cons, inE_nil, inE_cons, or_t_l, or_f_l, Nat.reduceBEq, Nat.reduceDiv, Nat.reduceAdd, beq_self_eq_true, uq0, Bool.or_false, ↓reduceIte, Nat.reduceEqDiff, uq1, uq2]
    simp -dsimp -implicitDefEqProofs only [go_sem, ↓reduceIte, nlt_len]
    rw [show opensL l c = true from hI]
theorem row_sum (k : List (List Int)) (i : Nat) : ∀ n, n ≤ k.length → ((k.take n).map fun x => x.getD i 0).length = n := fun n h => by simp [h]
theorem c_hullOf (m : MkM) (keys : List (List Int)) (hm : isMk m = true) (h0 : keys.length ≤ 1048576) (hk3 : ∀ k ∈ keys, (k.length : Int) = m.chambers ∧ ∀ x ∈ k, 0 ≤ x ∧ x < m.depths) :
    Fn Tryz.prog 82 [eMk m, eIss keys] false (· = eLk (hull m keys m.chambers.toNat)) := by
  have ⟨⟨n1, n2⟩, n3, n4⟩ := isMk_num hm
  refine Fn.of_vcS 42 [.cell 4 83] Tryz.func82 rfl rfl rfl rfl rfl (of_decide_eq_true rfl) ?_
  simp -dsimp -implicitDefEqProofs only [go_sem, ↓reduceIte]
  refine Later.up [1, 4, 5, 12] [16, 18, 28, 29, 32, 36, 37, 38] [5, 38] m.chambers.toNat (fun _ => True) (fun i => [(13, eI i)]) (fun i => [(5, .box 0 [.ref 38 0 0 i]), (38, .row 0 ⟨1, false⟩ (i == 0) ((hull m keys i).map eIs))]) trivial ?_ rfl (fun i hi _ => ?_) (fun _ => ?_)
  · simp -dsimp -implicitDefEqProofs only [go_sem, ↓reduceIte, hull_zero]
  · have hlt : decide ((i : Int) < m.chambers) = true := decide_eq_true (by omega)
    have hhl := hull_len m keys i
    have hset := hullSet_eq (m := m) (keys := keys) (i := i) (fun k hk => by
      obtain ⟨h1, h2⟩ := hk3 k hk
      have hil : i < k.length := by omega
      rw [show k.getD i 0 = k[i] by simp [List.getD_eq_getElem?_getD, hil]]
      exact h2 _ (List.getElem_mem hil))
    rw [hull_succ, ← hset]
    clear hset
    generalize hull m keys i = H at *
    simp -dsimp -implicitDefEqProofs only [pick_nil, pick_cons, look_nil, look_cons, dropB_nil, dropB_cons, inD_nil, inD_cons, inE_nil, inE_cons, or_t_l, or_f_l, Nat.reduceBEq, Nat.reduceDiv, Nat.reduceAdd, beq_self_eq_true, uq0, Bool.or_false, ↓reduceIte, Nat.reduceEqDiff, uq1, uq2]
    simp -dsimp -implicitDefEqProofs only [go_sem, ↓reduceIte, hlt]
    refine Later.up [1, 4, 5, 6, 12, 13, 17, 18] [28, 29] [16] keys.length (fun _ => True) (fun k => [(19, eI k), (7, .ref 16 0 0 k)]) (fun k => [(16, .row 0 ⟨1, false⟩ true (((keys.take k).map fun x => x.getD i 0).map eI))]) trivial ?_ rfl (fun k hk' _ => ?_) (fun _ => ?_)
    · simp -dsimp -implicitDefEqProofs only [go_sem, ↓reduceIte, List.take_zero, List.map_nil]
    · have hkl : i < keys[k].length := by have := (hk3 _ (List.getElem_mem hk')).1; omega
      have gk := get_some hk'
      have gi := get_some hkl
      have lk := lt_len hk'
      have hgd : keys[k].getD i 0 = keys[k][i] := by simp [List.getD_eq_getElem?_getD, hkl]
      have ht : (keys.take (k + 1)).map (fun x => x.getD i 0) = (keys.take k).map (fun x => x.getD i 0) ++ [keys[k][i]] := by
        rw [List.take_succ_eq_append_getElem hk', List.map_append, List.map_singleton, hgd]
      have hln := row_sum keys i k (by omega)
      rw [ht]
      clear ht hgd
      generalize (keys.take k).map (fun x => x.getD i 0) = F at *
      generalize keys[k] = x at *
      generalize x[i] = z at *
      have htk := take_map_all eI F k (by omega)
      simp -dsimp -implicitDefEqProofs only [pick_nil, pick_cons, look_nil, look_cons, dropB_nil, dropB_cons, inD_nil, inD_cons, inE_nil, inE_cons, or_t_l, or_f_l, Nat.reduceBEq, Nat.reduceDiv, Nat.reduceAdd, beq_self_eq_true, uq0, Bool.or_false, ↓reduceIte, Nat.reduceEqDiff, uq1, uq2]
      simp -dsimp -implicitDefEqProofs only [go_sem, ↓reduceIte, lk, gk, gi, htk]
      ((repeat' (with_reducible refine And.intro ?_ ?_)); all_goals try (first | omega | (refine ⟨?_, ?_⟩ <;> omega) | (exact rfl)))
      all_goals first | (simp; done) | trace_state
    · have hln := row_sum keys i keys.length (Nat.le_refl _)
      have hr : rowsL (keys.map fun k => k.getD i 0) = Lib.compact (((keys.take keys.length).map fun k => k.getD i 0).mergeSort fun x y => decide (x ≤ y)) := by rw [List.take_length, rowsL_eq]
      rw [hr]
      clear hr
      generalize (keys.take keys.length).map (fun x => x.getD i 0) = F at *
      simp -dsimp -implicitDefEqProofs only [pick_nil, pick_cons, look_nil, look_cons, dropB_nil, dropB_cons, inD_nil, inD_cons, inE_nil, inE_cons, or_t_l, or_f_l, Nat.reduceBEq, Nat.reduceDiv, Nat.reduceAdd, beq_self_eq_true, uq0, Bool.or_false, ↓reduceIte, Nat.reduceEqDiff, uq1, uq2]
      simp -dsimp -implicitDefEqProofs only [go_sem, ↓reduceIte, nlt_len]
      refine ⟨by omega, ?_⟩
      refine sCallT_io [16] ?_
      simp -dsimp -implicitDefEqProofs only [go_sem, ↓reduceIte]
      rw [← hln]
      refine sCallM_one (c_SortI 0 F (by omega)) ?_
      simp -dsimp -implicitDefEqProofs only [go_sem, ↓reduceIte]
      refine Later.draw mixed rfl ?_
      have hle : (F.mergeSort fun x y => decide (x ≤ y)).length = F.length := List.length_mergeSort _
      have hcl := compact_len (F.mergeSort fun x y => decide (x ≤ y))
      simp -dsimp -implicitDefEqProofs only [go_sem, ↓reduceIte]
      refine ⟨by omega, ?_⟩
      refine s_CompactX (zs := F.mergeSort fun x y => decide (x ≤ y)) ?_ hle.symm (by omega) ?_
      · simp -dsimp -implicitDefEqProofs only [go_sem, ↓reduceIte]
      generalize Lib.compact (F.mergeSort fun x y => decide (x ≤ y)) = C at *
      have e0 : (i + 1 == 0) = false := rfl
      have e2 : List.map eIs (H ++ [C]) = List.map eIs H ++ [eIs C] := by simp
      have htk := take_map_all eIs H i (by omega)
      have htC : List.take C.length (List.map eI (C ++ List.replicate ((F.mergeSort fun x y => decide (x ≤ y)).length - C.length) 0)) = List.map eI C := by rw [← List.map_take]; simp
      simp -dsimp -implicitDefEqProofs only [go_sem, ↓reduceIte, htC]
      refine ⟨by omega, .inr ⟨by omega, by omega, (by cases i with | zero => exact .inr rfl | succ i => exact .inl rfl), by exact rfl, ⟨by omega, by omega⟩, rfl, ?_⟩⟩
      rw [e0, e2]
      simp -dsimp -implicitDefEqProofs only [go_sem, ↓reduceIte, htk, htC]
  · have hlt : decide (((m.chambers.toNat : Nat) : Int) < m.chambers) = false := decide_eq_false (by omega)
    have hhl := hull_len m keys m.chambers.toNat
    generalize hull m keys m.chambers.toNat = H at *
    have htk := take_map_all eIs H m.chambers.toNat (by omega)
    simp -dsimp -implicitDefEqProofs only [pick_nil, pick_cons, look_nil, look_cons, dropB_nil, dropB_cons, inD_nil, inD_cons, inE_nil, inE_cons, or_t_l, or_f_l, Nat.reduceBEq, Nat.reduceDiv, Nat.reduceAdd, beq_self_eq_true, uq0, Bool.or_false, ↓reduceIte, Nat.reduceEqDiff, uq1, uq2]
    simp -dsimp -implicitDefEqProofs only [go_sem, ↓reduceIte, hlt]
    ((repeat' (with_reducible refine And.intro ?_ ?_)); all_goals try (first | omega | (refine ⟨?_, ?_⟩ <;> omega) | (exact rfl)))
    all_goals rw [htk]

def cutOn (cuts : List (List Int)) (rs : List Int) : Nat → List (List Int)
  | 0 => []
  | j + 1 => if decide (rs.getD j 0 < (cuts.length : Int)) = true then cutOn cuts rs j ++ [cuts.getD (rs.getD j 0).toNat []] else cutOn cuts rs j
theorem cutOn_zero (cuts : List (List Int)) (rs : List Int) : cutOn cuts rs 0 = [] := rfl
theorem cutOn_succ (cuts : List (List Int)) (rs : List Int) (j : Nat) : cutOn cuts rs (j + 1) = if decide (rs.getD j 0 < (cuts.length : Int)) = true then cutOn cuts rs j ++ [cuts.getD (rs.getD j 0).toNat []] else cutOn cuts rs j := rfl
theorem cutOn_len (cuts : List (List Int)) (rs : List Int) : ∀ j, (cutOn cuts rs j).length ≤ j
  | 0 => Nat.le_refl _
  | j + 1 => by
    have := cutOn_len cuts rs j
    rw [cutOn_succ]; split
    · simp; omega
    · omega
theorem cutOn_app (cuts : List (List Int)) (rs : List Int) (x : Int) : cutOn cuts (rs ++ [x]) (rs ++ [x]).length = if decide (x < (cuts.length : Int)) = true then cutOn cuts rs rs.length ++ [cuts.getD x.toNat []] else cutOn cuts rs rs.length := by
  have key : ∀ j, j ≤ rs.length → cutOn cuts (rs ++ [x]) j = cutOn cuts rs j := by
    intro j
    induction j with
    | zero => intro _; rfl
    | succ j ih =>
      intro hj
      have : (rs ++ [x]).getD j 0 = rs.getD j 0 := by simp [List.getD_eq_getElem?_getD, List.getElem?_append_left (show j < rs.length by omega)]
      rw [cutOn_succ, cutOn_succ, ih (by omega), this]
  have e : (rs ++ [x]).length = rs.length + 1 := by simp
  have hx : (rs ++ [x]).getD rs.length 0 = x := by simp [List.getD_eq_getElem?_getD]
  rw [e, cutOn_succ, key _ (Nat.le_refl _), hx]
theorem cutOn_rows (t cuts : List (List Int)) (k : Nat) : ∀ n, n ≤ t.length → cutOn cuts (flt (fun i => (t.getD i []).getD k 0 == 1) n) (flt (fun i => (t.getD i []).getD k 0 == 1) n).length = onTo t cuts k (min n cuts.length)
  | 0, _ => by rw [flt_zero, Nat.zero_min]; rfl
  | n + 1, hn => by
    have ih := cutOn_rows t cuts k n (by omega)
    rw [flt_succ]
    split
    · rename_i h
      rw [cutOn_app, ih]
      by_cases hc : n < cuts.length
      · rw [if_pos (decide_eq_true (by omega)), show min (n + 1) cuts.length = n + 1 by omega, show min n cuts.length = n by omega, onTo_succ, if_pos h]; rfl
      · rw [if_neg (by simp; omega), show min (n + 1) cuts.length = min n cuts.length by omega]
    · rename_i h
      rw [ih]
      by_cases hc : n < cuts.length
      · rw [show min (n + 1) cuts.length = n + 1 by omega, show min n cuts.length = n by omega, onTo_succ, if_neg h]
      · rw [show min (n + 1) cuts.length = min n cuts.length by omega]
theorem cutOn_all {t cuts : List (List Int)} (h : cuts.length ≤ t.length) (k : Nat) : cutOn cuts (rowsOn t k) (rowsOn t k).length = onTo t cuts k cuts.length := by
  have := cutOn_rows t cuts k t.length (Nat.le_refl _)
  rwa [show min t.length cuts.length = cuts.length by omega] at this
theorem rowsOn_get {t : List (List Int)} {k j : Nat} (h : j < (rowsOn t k).length) : 0 ≤ (rowsOn t k)[j] := by
  have h1 : (rowsOn t k)[j] ∈ rowsOn t k := List.getElem_mem h
  obtain ⟨i, _, e, _⟩ := flt_mem (p := fun i => (t.getD i []).getD k 0 == 1) (i := t.length) h1
  omega
theorem rowsOn_len (t : List (List Int)) (k : Nat) : (rowsOn t k).length ≤ t.length := flt_len _ _
theorem c_partLocks (m : MkM) (t cuts : List (List Int)) (hm : isMk m = true) (h0 : t.length ≤ 1000) (h1 : cuts.length ≤ t.length) (h2 : 0 < t.length) (hk : ∀ i (hi : i < t.length), t[i].length = (t.getD 0 []).length) (hd : (t.getD 0 []).length ≤ 1000) (hc : ∀ x ∈ cuts, (x.length : Int) = m.chambers ∧ ∀ y ∈ x, 0 ≤ y ∧ y < m.depths) :
    Fn Tryz.prog 53 [eSy m t, eIss cuts] false (· = eLks (locksTo m t cuts (t.getD 0 []).length)) := by
  refine Fn.of_vcS 49 [.tmp 4] Tryz.func53 rfl rfl rfl rfl rfl (of_decide_eq_true rfl) ?_
  have g0 := get_some h2
  have hg : t.getD 0 [] = t[0] := by simp [List.getD_eq_getElem?_getD, h2]
  rw [hg] at hk hd ⊢
  simp -dsimp -implicitDefEqProofs only [go_sem, ↓reduceIte, g0]
  refine ⟨by omega, ?_⟩
  refine Later.up [1, 2, 15] [19, 22, 23, 30, 37, 38, 44, 45, 46] [10] t[0].length (fun _ => True) (fun i => [(16, eI i), (5, .ref 10 0 0 i)]) (fun i => [(10, .row 0 ⟨1, true⟩ (i == 0) ((locksTo m t cuts i).map eLk))]) trivial ?_ rfl (fun i hi _ => ?_) (fun _ => ?_)
  · simp -dsimp -implicitDefEqProofs only [go_sem, ↓reduceIte, locksTo_zero]
  · have hrf := c_rowsFor m t i (by omega) (fun j hj => by rw [hk j hj]; exact hi)
    have hll := locksTo_len m t cuts i
    have li := lt_len hi
    have hrl := rowsOn_len t i
    have hrg := fun j (h : j < (rowsOn t i).length) => rowsOn_get h
    have hon := onTo_len t cuts i cuts.length
    have hmm : ∀ x ∈ onTo t cuts i cuts.length, (x.length : Int) = m.chambers ∧ ∀ y ∈ x, 0 ≤ y ∧ y < m.depths := fun x hx => hc x (onTo_mem (Nat.le_refl _) x hx)
    have hq := c_hullOf m (onTo t cuts i cuts.length) hm (by omega) hmm
    have hall := cutOn_all h1 i
    rw [locksTo_succ]
    unfold lockAt
    generalize locksTo m t cuts i = F at *
    have htk := take_map_all eLk F i (by omega)
    have e0 : (i + 1 == 0) = false := rfl
    have e2 : ∀ L : List (List Int), List.map eLk (F ++ [L]) = List.map eLk F ++ [eLk L] := fun L => by simp
    generalize onTo t cuts i cuts.length = K at *
    simp -dsimp -implicitDefEqProofs only [pick_nil, pick_cons, look_nil, look_cons, dropB_nil, dropB_cons, inD_nil, inD_cons, inE_nil, inE_cons, or_t_l, or_f_l, Nat.reduceBEq, Nat.reduceDiv, Nat.reduceAdd, beq_self_eq_true, uq0, Bool.or_false, ↓reduceIte, Nat.reduceEqDiff, uq1, uq2]
    simp -dsimp -implicitDefEqProofs only [go_sem, ↓reduceIte, li]
    refine sCallT_one hrf ?_
    clear hrf
    generalize rowsOn t i = R at *
    simp -dsimp -implicitDefEqProofs only [go_sem, ↓reduceIte]
    refine Later.up [1, 2, 5, 15, 16, 22, 23] [30, 37, 38] [19] R.length (fun _ => True) (fun j => [(24, eI j), (7, .ref 19 0 0 (cutOn cuts R j).length)]) (fun j => [(19, .row 0 ⟨1, false⟩ (cutOn cuts R j).isEmpty ((cutOn cuts R j).map eIs))]) trivial ?_ rfl (fun j hj _ => ?_) (fun _ => ?_)
    · simp -dsimp -implicitDefEqProofs only [go_sem, ↓reduceIte, cutOn_zero, List.isEmpty_nil]
    · have lj := lt_len hj
      have gj := get_some hj
      have hgd : R.getD j 0 = R[j] := by simp [List.getD_eq_getElem?_getD, hj]
      have hcl := cutOn_len cuts R j
      have hr0 := hrg j hj
      rw [cutOn_succ, hgd]
      generalize cutOn cuts R j = G at *
      generalize R[j] = z at *
      have htG := take_map_all eIs G G.length (Nat.le_refl _)
      simp -dsimp -implicitDefEqProofs only [pick_nil, pick_cons, look_nil, look_cons, dropB_nil, dropB_cons, inD_nil, inD_cons, inE_nil, inE_cons, or_t_l, or_f_l, Nat.reduceBEq, Nat.reduceDiv, Nat.reduceAdd, beq_self_eq_true, uq0, Bool.or_false, ↓reduceIte, Nat.reduceEqDiff, uq1, uq2]
      rcases hz : decide (z < (cuts.length : Int)) with _ | _
      · simp -dsimp -implicitDefEqProofs only [go_sem, ↓reduceIte, lj, gj, hz]
        ((repeat' (with_reducible refine And.intro ?_ ?_)); all_goals try (first | omega | (refine ⟨?_, ?_⟩ <;> omega) | (exact rfl)))
        all_goals trace_state
      · have hzl : z.toNat < cuts.length := by have := of_decide_eq_true hz; omega
        have gz := get_some hzl
        have hcd : cuts.getD z.toNat [] = cuts[z.toNat] := by simp [List.getD_eq_getElem?_getD, hzl]
        simp only [if_true]
        rw [hcd]
        generalize cuts[z.toNat] = c at *
        have f0 : (G ++ [c]).isEmpty = false := by simp
        have f2 : List.map eIs (G ++ [c]) = List.map eIs G ++ [eIs c] := by simp
        simp -dsimp -implicitDefEqProofs only [go_sem, ↓reduceIte, lj, gj, gz, hz]
        refine ⟨⟨by omega, by omega⟩, ⟨by omega, by omega⟩, ?_⟩
        refine .inr ⟨by omega, (by cases G with | nil => exact .inr rfl | cons => exact .inl rfl), ⟨by omega, by omega⟩, ?_⟩
        rw [f0, f2]
        simp -dsimp -implicitDefEqProofs only [go_sem, ↓reduceIte, htG]
        exact rfl
    · rw [hall]
      have htK := take_map_all eIs K K.length (Nat.le_refl _)
      simp -dsimp -implicitDefEqProofs only [pick_nil, pick_cons, look_nil, look_cons, dropB_nil, dropB_cons, inD_nil, inD_cons, inE_nil, inE_cons, or_t_l, or_f_l, Nat.reduceBEq, Nat.reduceDiv, Nat.reduceAdd, beq_self_eq_true, uq0, Bool.or_false, ↓reduceIte, Nat.reduceEqDiff, uq1, uq2]
      simp -dsimp -implicitDefEqProofs only [go_sem, ↓reduceIte, nlt_len]
      refine sCallT_frz 19 0 ⟨1, false⟩ K.isEmpty (List.map eIs K) hq (by decide) ?_ ?_ fun r hr => ?_
      · simp -dsimp -implicitDefEqProofs only [go_sem, ↓reduceIte]
      · refine frzOk_no ?_ rfl ?_
        · simp -dsimp -implicitDefEqProofs only [go_sem, ↓reduceIte]
        · have h := frzOk_ref (l := 19) (v := 0) (sh := ⟨1, false⟩) (ys := List.map eIs K) (xs := []) (r := []) 0 K.length (by simp) trivial
          rw [List.drop_zero, htK] at h
          exact h
      · subst hr
        generalize hull m K m.chambers.toNat = L at *
        simp -dsimp -implicitDefEqProofs only [go_sem, ↓reduceIte]
        refine .inr ⟨by omega, by omega, (by cases i with | zero => exact .inr rfl | succ i => exact .inl rfl), ⟨by omega, by omega⟩, rfl, ?_⟩
        rw [e0, e2]
        simp -dsimp -implicitDefEqProofs only [go_sem, ↓reduceIte, htk]
  · have hll := locksTo_len m t cuts t[0].length
    generalize locksTo m t cuts t[0].length = F at *
    have htk := take_map_all eLk F t[0].length (by omega)
    simp -dsimp -implicitDefEqProofs only [pick_nil, pick_cons, look_nil, look_cons, dropB_nil, dropB_cons, inD_nil, inD_cons, inE_nil, inE_cons, or_t_l, or_f_l, Nat.reduceBEq, Nat.reduceDiv, Nat.reduceAdd, beq_self_eq_true, uq0, Bool.or_false, ↓reduceIte, Nat.reduceEqDiff, uq1, uq2]
    simp -dsimp -implicitDefEqProofs only [go_sem, ↓reduceIte, nlt_len]
    ((repeat' (with_reducible refine And.intro ?_ ?_)); all_goals try (first | omega | (refine ⟨?_, ?_⟩ <;> omega) | (exact rfl)))
    all_goals rw [htk]
theorem c_partFaults (m : MkM) (t cuts : List (List Int)) (hm : isMk m = true) (h0 : t.length ≤ 1000) (h1 : cuts.length ≤ t.length) (h2 : 0 < t.length) (hk : ∀ i (hi : i < t.length), t[i].length = (t.getD 0 []).length) (hd : (t.getD 0 []).length ≤ 1000) (hc : ∀ x ∈ cuts, (x.length : Int) = m.chambers ∧ ∀ y ∈ x, 0 ≤ y ∧ y < m.depths) :
    Fn Tryz.prog 117 [eSy m t, eIss cuts] false (· = eIss (falses m t cuts)) := by
  have ⟨⟨n1, n2⟩, n3, n4⟩ := isMk_num hm
  refine Fn.of_vcS 52 [.tmp 4] Tryz.func117 rfl rfl rfl rfl rfl (of_decide_eq_true rfl) ?_
  have hq := c_partLocks m t cuts hm h0 h1 h2 hk hd hc
  simp -dsimp -implicitDefEqProofs only [go_sem, ↓reduceIte]
  (refine sCallS_one (hq) (by simp [noLabs, labs, labsL, isClo]) ?_)
  clear hq
  simp -dsimp -implicitDefEqProofs only [go_sem, ↓reduceIte]
  have hll := locksTo_len m t cuts (t.getD 0 []).length
  refine Later.up [2, 6, 15, 16] [10, 23, 41, 46, 47, 48] [11] cuts.length (fun _ => True) (fun i => [(17, eI i), (5, .ref 11 0 0 (fprTo m t cuts i).length)]) (fun i => [(11, .row 0 ⟨1, false⟩ (fprTo m t cuts i).isEmpty ((fprTo m t cuts i).map eIs))]) trivial ?_ rfl (fun i hi _ => ?_) (fun _ => ?_)
  · simp -dsimp -implicitDefEqProofs only [go_sem, ↓reduceIte, fprTo_zero, List.isEmpty_nil]
  · have hfl := fprTo_len m t cuts i
    have li := lt_len hi
    have gc := get_some hi
    have hmul : i * (t.getD 0 []).length ≤ 1000 * 1000 := Nat.mul_le_mul (by omega) hd
    rw [fprTo_succ]
    generalize fprTo m t cuts i = H at *
    simp -dsimp -implicitDefEqProofs only [pick_nil, pick_cons, look_nil, look_cons, dropB_nil, dropB_cons, inD_nil, inD_cons, inE_nil, inE_cons, or_t_l, or_f_l, Nat.reduceBEq, Nat.reduceDiv, Nat.reduceAdd, beq_self_eq_true, uq0, Bool.or_false, ↓reduceIte, Nat.reduceEqDiff, uq1, uq2]
    simp -dsimp -implicitDefEqProofs only [go_sem, ↓reduceIte, li, gc]
    refine ⟨by omega, ?_⟩
    refine Later.up [2, 6, 7, 8, 15, 16, 17, 22, 23] [10, 41, 46, 47, 48] [11] (t.getD 0 []).length (fun _ => True) (fun k => [(24, eI k), (5, .ref 11 0 0 (H ++ fpTo m t cuts i k).length)]) (fun k => [(11, .row 0 ⟨1, false⟩ (H ++ fpTo m t cuts i k).isEmpty ((H ++ fpTo m t cuts i k).map eIs))]) trivial ?_ rfl (fun k hk' _ => ?_) (fun _ => ?_)
    · simp -dsimp -implicitDefEqProofs only [go_sem, ↓reduceIte, fpTo_zero, List.append_nil]
    · have hit : i < t.length := by omega
      have hki : k < t[i].length := by rw [hk i hit]; exact hk'
      have gi := get_some hit
      have gk := get_some hki
      have gl := locksTo_get m t cuts hk'
      have hp : (t.getD i []).getD k 0 = t[i][k] := by simp [List.getD_eq_getElem?_getD, hit, hki]
      have hcd : cuts.getD i [] = cuts[i] := by simp [List.getD_eq_getElem?_getD, hi]
      have hfk := fpTo_len m t cuts i k
      have hL := lockAt_len m t cuts k
      have hcl := (hc _ (List.getElem_mem hi)).1
      have hop := c_opens (lockAt m t cuts k) cuts[i] (by omega) (by omega) (fun x hx => by have := lockAt_sets m t cuts k x hx; omega)
      rw [fpTo_succ, hp, hcd]
      generalize fpTo m t cuts i k = F at *
      generalize lockAt m t cuts k = L at *
      generalize locksTo m t cuts (t.getD 0 []).length = LS at *
      have lk : decide ((k : Int) < (LS.length : Int)) = true := decide_eq_true (by omega)
      generalize t[i][k] = z at *
      generalize cuts[i] = c at *
      generalize hopb : opensL L c = ob at *
      have hG : (H ++ F).length ≤ 1001000 := by rw [List.length_append]; omega
      have e9 : ∀ x : List Int, H ++ (F ++ [x]) = (H ++ F) ++ [x] := fun x => by simp
      simp only [e9, apply_ite (fun l => H ++ l)]
      generalize H ++ F = G at *
      have htk := take_map_all eIs G G.length (Nat.le_refl _)
      have e0 : (G ++ [[(i : Int), (k : Int)]]).isEmpty = false := by simp
      have e2 : List.map eIs (G ++ [[(i : Int), (k : Int)]]) = List.map eIs G ++ [eIs [(i : Int), (k : Int)]] := by simp
      simp -dsimp -implicitDefEqProofs only [pick_nil, pick_cons, look_nil, look_cons, dropB_nil, dropB_cons, inD_nil, inD_cons, inE_nil, inE_cons, or_t_l, or_f_l, Nat.reduceBEq, Nat.reduceDiv, Nat.reduceAdd, beq_self_eq_true, uq0, Bool.or_false, ↓reduceIte, Nat.reduceEqDiff, uq1, uq2]
      rcases hz : (z == 0) with _ | _
      · simp -dsimp -implicitDefEqProofs only [go_sem, ↓reduceIte, gi, gk, gl, li, lk, hz]
        ((repeat' (with_reducible refine And.intro ?_ ?_)); all_goals try (first | omega | (refine ⟨?_, ?_⟩ <;> omega) | (exact rfl)))
        all_goals trace_state
      · simp -dsimp -implicitDefEqProofs only [go_sem, ↓reduceIte, gi, gk, gc, gl, li, lk, hz]
        ((repeat' (with_reducible refine And.intro ?_ ?_)); all_goals try (first | omega | (refine ⟨?_, ?_⟩ <;> omega) | (exact rfl)))
        refine sCallT_one hop ?_
        cases ob with
        | false =>
          simp -dsimp -implicitDefEqProofs only [go_sem, ↓reduceIte]
          ((repeat' (with_reducible refine And.intro ?_ ?_)); all_goals try (first | omega | (refine ⟨?_, ?_⟩ <;> omega) | (exact rfl)))
          all_goals trace_state
        | true =>
          simp -dsimp -implicitDefEqProofs only [go_sem, ↓reduceIte]
          refine .inr ⟨by omega, (by cases G with | nil => exact .inr rfl | cons => exact .inl rfl), ⟨by omega, by omega⟩, rfl, ?_⟩
          rw [e0, e2]
          simp -dsimp -implicitDefEqProofs only [go_sem, ↓reduceIte, htk]
          all_goals first | exact rfl | trace_state
    · simp -dsimp -implicitDefEqProofs only [pick_nil, pick_cons, look_nil, look_cons, dropB_nil, dropB_cons, inD_nil, inD_cons, inE_nil, inE_cons, or_t_l, or_f_l, Nat.reduceBEq, Nat.reduceDiv, Nat.reduceAdd, beq_self_eq_true, uq0, Bool.or_false, ↓reduceIte, Nat.reduceEqDiff, uq1, uq2]
      simp -dsimp -implicitDefEqProofs only [go_sem, ↓reduceIte, hll, nlt_len]
      ((repeat' (with_reducible refine And.intro ?_ ?_)); all_goals try (first | omega | (refine ⟨?_, ?_⟩ <;> omega) | (exact rfl)))
      all_goals trace_state
  · have hfl := fprTo_len m t cuts cuts.length
    unfold falses
    generalize fprTo m t cuts cuts.length = F at *
    have htk := take_map_all eIs F F.length (Nat.le_refl _)
    simp -dsimp -implicitDefEqProofs only [pick_nil, pick_cons, look_nil, look_cons, dropB_nil, dropB_cons, inD_nil, inD_cons, inE_nil, inE_cons, or_t_l, or_f_l, Nat.reduceBEq, Nat.reduceDiv, Nat.reduceAdd, beq_self_eq_true, uq0, Bool.or_false, ↓reduceIte, Nat.reduceEqDiff, uq1, uq2]
    simp -dsimp -implicitDefEqProofs only [go_sem, ↓reduceIte, nlt_len]
    ((repeat' (with_reducible refine And.intro ?_ ?_)); all_goals try (first | omega | (refine ⟨?_, ?_⟩ <;> omega) | (exact rfl)))
    all_goals rw [htk]
end Go.Vc


set_option linter.unusedVariables false
set_option linter.unusedSimpArgs false
set_option linter.unnecessarySimpa false
namespace Go.Vc
open Go.Proofs
set_option maxRecDepth 100000
set_option maxHeartbeats 4000000
theorem key1_out {m : MkM} {c : List Int} (h : key1 m c = true) : (c.length : Int) = m.chambers ∧ ∀ y ∈ c, 0 ≤ y ∧ y < m.depths := by
  obtain ⟨h1, h2, _⟩ := fault_out (beq_iff_eq.1 h)
  exact ⟨h1, h2⟩
theorem isCutsOf_out {m : MkM} {t cuts : List (List Int)} (h : isCutsOf m t cuts = true) : cuts.length = t.length ∧ ∀ x ∈ cuts, key1 m x = true := by
  simp only [isCutsOf, Bool.and_eq_true, beq_iff_eq, List.all_eq_true] at h
  exact h
theorem isSy_mk {m : MkM} {t : List (List Int)} (h : isSy m t = true) : isMk m = true := by
  simp only [isSy, Bool.and_eq_true] at h; exact h.1.1
theorem falses_len0 (m : MkM) (t cuts : List (List Int)) : (((falses m t cuts).length : Int) == 0) = (falses m t cuts).isEmpty := by
  cases falses m t cuts with
  | nil => rfl
  | cons x r => simp; omega
theorem isDes_out {m : MkM} {t cuts : List (List Int)} (h : isDes m t cuts = true) : isSy m t = true ∧ isCutsOf m t cuts = true := by
  simp only [isDes, Bool.and_eq_true] at h; exact h.1
theorem c_l15Cuts (m : MkM) (t cuts : List (List Int)) (h : t.length ≤ 1048576) (h2 : ∀ x ∈ t, x.length ≤ 1048576) (h3 : cuts.length ≤ 1048576) (h4 : ∀ x ∈ cuts, x.length ≤ 1048576) (hs : isSy m t = true) : Fn Tryz.prog 135 [eSy m t, eIss cuts] true (· = eB (isCutsOf m t cuts)) := by
  have hn := isSy_num hs
  have hq := c_l04Keys m cuts (isSy_mk hs) h3 h4
  have hlen : ((cuts.length : Int) == (t.length : Int)) = (cuts.length == t.length) := by rw [Bool.eq_iff_iff]; simp only [beq_iff_eq]; omega
  refine Fn.of_vcN 17 [.tmp 4] Tryz.func135 rfl rfl rfl rfl rfl (of_decide_eq_true rfl) ?_
  unfold isCutsOf
  rcases hl : (cuts.length == t.length) with _ | _
  · simp -dsimp -implicitDefEqProofs only [go_sem, ↓reduceIte, hlen, hl]
    ((repeat' (with_reducible refine And.intro ?_ ?_)); all_goals try (first | omega | (refine ⟨?_, ?_⟩ <;> omega) | (exact rfl)))
    all_goals trace_state
  · have he := beq_iff_eq.1 hl
    rw [decide_eq_true (show _ by omega), Bool.and_true] at hq
    simp -dsimp -implicitDefEqProofs only [go_sem, ↓reduceIte, hlen, hl]
    refine sCallT_one hq ?_
    simp -dsimp -implicitDefEqProofs only [go_sem, ↓reduceIte]
    ((repeat' (with_reducible refine And.intro ?_ ?_)); all_goals try (first | omega | (refine ⟨?_, ?_⟩ <;> omega) | (exact rfl)))
    all_goals trace_state
theorem c_l15Code (m : MkM) (t cuts : List (List Int)) (h : t.length ≤ 1048576) (h2 : ∀ x ∈ t, x.length ≤ 1048576) (h3 : cuts.length ≤ 1048576) (h4 : ∀ x ∈ cuts, x.length ≤ 1048576) : Fn Tryz.prog 114 [eSy m t, eIss cuts] true (· = eI (cutsC m t cuts)) := by
  refine Fn.of_vcN 12 [.tmp 4] Tryz.func114 rfl rfl rfl rfl rfl (of_decide_eq_true rfl) ?_
  have hq := c_sIsSystem m t h h2
  unfold cutsC
  rcases hb : isSy m t with _ | _
  · rw [hb] at hq
    simp -dsimp -implicitDefEqProofs only [go_sem, ↓reduceIte]
    refine sCallT_one hq ?_
    simp -dsimp -implicitDefEqProofs only [go_sem, ↓reduceIte]
    ((repeat' (with_reducible refine And.intro ?_ ?_)); all_goals try (first | omega | (refine ⟨?_, ?_⟩ <;> omega) | (exact rfl)))
  · have hr := c_l15Cuts m t cuts h h2 h3 h4 hb
    rw [hb] at hq
    simp -dsimp -implicitDefEqProofs only [go_sem, ↓reduceIte]
    refine sCallT_one hq ?_
    simp -dsimp -implicitDefEqProofs only [go_sem, ↓reduceIte]
    refine sCallT_one hr ?_
    cases isCutsOf m t cuts <;> simp -dsimp -implicitDefEqProofs only [go_sem, ↓reduceIte]
    all_goals ((repeat' (with_reducible refine And.intro ?_ ?_)); all_goals try (first | omega | (refine ⟨?_, ?_⟩ <;> omega) | (exact rfl)))
theorem c_sIsDesign (m : MkM) (t cuts : List (List Int)) (h : t.length ≤ 1048576) (h2 : ∀ x ∈ t, x.length ≤ 1048576) (h3 : cuts.length ≤ 1048576) (h4 : ∀ x ∈ cuts, x.length ≤ 1048576) : Fn Tryz.prog 92 [eSy m t, eIss cuts] true (· = eB (isDes m t cuts)) := by
  refine Fn.of_vcN 16 [.tmp 4] Tryz.func92 rfl rfl rfl rfl rfl (of_decide_eq_true rfl) ?_
  have hq := c_l15Code m t cuts h h2 h3 h4
  have hf0 := falses_len0 m t cuts
  rcases hb : (isSy m t && isCutsOf m t cuts) with _ | _
  · have hc : (cutsC m t cuts == 0) = false := by
      unfold cutsC
      cases h1 : isSy m t <;> cases h2 : isCutsOf m t cuts <;> simp_all
    unfold isDes
    rw [hb]
    generalize cutsC m t cuts = c at *
    simp -dsimp -implicitDefEqProofs only [go_sem, ↓reduceIte]
    refine sCallT_one hq ?_
    simp -dsimp -implicitDefEqProofs only [go_sem, ↓reduceIte, hc]
    ((repeat' (with_reducible refine And.intro ?_ ?_)); all_goals try (first | omega | (refine ⟨?_, ?_⟩ <;> omega) | (exact rfl)))
    all_goals trace_state
  · obtain ⟨h5, h6⟩ := Bool.and_eq_true_iff.1 hb
    have hn := isSy_num h5
    obtain ⟨h7, h8⟩ := isCutsOf_out h6
    have hr := c_l15False m t cuts (isSy_mk h5) (by omega) (by omega) (by omega) (fun i hi => hn.2.2.2.2 i hi) (by omega) (fun x hx => (key1_out (h8 x hx)).1)
    have hc : cutsC m t cuts = 0 := by rw [cutsC, h5, h6]; rfl
    rw [hc] at hq
    unfold isDes
    rw [hb]
    generalize falses m t cuts = F at *
    simp -dsimp -implicitDefEqProofs only [go_sem, ↓reduceIte]
    refine sCallT_one hq ?_
    simp -dsimp -implicitDefEqProofs only [go_sem, ↓reduceIte]
    (refine sCallS_one (hr) (by simp [noLabs, labs, labsL, isClo]) ?_)
    simp -dsimp -implicitDefEqProofs only [go_sem, ↓reduceIte, hf0]
    ((repeat' (with_reducible refine And.intro ?_ ?_)); all_goals try (first | omega | (refine ⟨?_, ?_⟩ <;> omega) | (exact rfl)))
    all_goals trace_state
theorem c_l21Code (m : MkM) (t cuts : List (List Int)) (h : t.length ≤ 1048576) (h2 : ∀ x ∈ t, x.length ≤ 1048576) (h3 : cuts.length ≤ 1048576) (h4 : ∀ x ∈ cuts, x.length ≤ 1048576) : Fn Tryz.prog 68 [eSy m t, eIss cuts] true (· = eI (if isDes m t cuts then 0 else 1)) := by
  refine Fn.of_vcN 9 [.tmp 4] Tryz.func68 rfl rfl rfl rfl rfl (of_decide_eq_true rfl) ?_
  have hq := c_sIsDesign m t cuts h h2 h3 h4
  simp -dsimp -implicitDefEqProofs only [go_sem, ↓reduceIte]
  refine sCallT_one hq ?_
  cases isDes m t cuts <;> simp -dsimp -implicitDefEqProofs only [go_sem, ↓reduceIte]
  all_goals ((repeat' (with_reducible refine And.intro ?_ ?_)); all_goals try (first | omega | (refine ⟨?_, ?_⟩ <;> omega) | (exact rfl)))
theorem c_cutsCode (m : MkM) (t cuts : List (List Int)) (h : t.length ≤ 1048576) (h2 : ∀ x ∈ t, x.length ≤ 1048576) (h3 : cuts.length ≤ 1048576) (h4 : ∀ x ∈ cuts, x.length ≤ 1048576) : Fn Tryz.prog 116 [eSy m t, eIss cuts] true (· = eI (cutsC m t cuts)) := by
  refine Fn.of_vcN 21 [.tmp 4] Tryz.func116 rfl rfl rfl rfl rfl (of_decide_eq_true rfl) ?_
  have hq := c_iIsSystem m t h h2
  unfold cutsC
  rcases hb : isSy m t with _ | _
  · rw [hb] at hq
    simp -dsimp -implicitDefEqProofs only [go_sem, ↓reduceIte]
    refine sCallT_one hq ?_
    simp -dsimp -implicitDefEqProofs only [go_sem, ↓reduceIte]
    ((repeat' (with_reducible refine And.intro ?_ ?_)); all_goals try (first | omega | (refine ⟨?_, ?_⟩ <;> omega) | (exact rfl)))
  · have hr := c_areKeys m cuts (isSy_mk hb) h3 h4
    rw [hb] at hq
    have hlen : ((cuts.length : Int) != (t.length : Int)) = !(cuts.length == t.length) := by
      rw [Bool.eq_iff_iff]; simp only [bne_iff_ne, Bool.not_eq_true', beq_eq_false_iff_ne]; omega
    unfold isCutsOf
    rcases hl : (cuts.length == t.length) with _ | _
    · simp -dsimp -implicitDefEqProofs only [go_sem, ↓reduceIte]
      refine sCallT_one hq ?_
      simp -dsimp -implicitDefEqProofs only [go_sem, ↓reduceIte, hlen, hl, Bool.not_false]
      ((repeat' (with_reducible refine And.intro ?_ ?_)); all_goals try (first | omega | (refine ⟨?_, ?_⟩ <;> omega) | (exact rfl)))
      all_goals trace_state
    · simp -dsimp -implicitDefEqProofs only [go_sem, ↓reduceIte]
      refine sCallT_one hq ?_
      simp -dsimp -implicitDefEqProofs only [go_sem, ↓reduceIte, hlen, hl, Bool.not_true]
      refine sCallT_one hr ?_
      cases cuts.all (key1 m) <;> simp -dsimp -implicitDefEqProofs only [go_sem, ↓reduceIte]
      all_goals ((repeat' (with_reducible refine And.intro ?_ ?_)); all_goals try (first | omega | (refine ⟨?_, ?_⟩ <;> omega) | (exact rfl)))
      all_goals trace_state
theorem c_iIsDesign (m : MkM) (t cuts : List (List Int)) (h : t.length ≤ 1048576) (h2 : ∀ x ∈ t, x.length ≤ 1048576) (h3 : cuts.length ≤ 1048576) (h4 : ∀ x ∈ cuts, x.length ≤ 1048576) : Fn Tryz.prog 95 [eSy m t, eIss cuts] true (· = eB (isDes m t cuts)) := by
  refine Fn.of_vcN 16 [.tmp 4] Tryz.func95 rfl rfl rfl rfl rfl (of_decide_eq_true rfl) ?_
  have hq := c_cutsCode m t cuts h h2 h3 h4
  have hf0 := falses_len0 m t cuts
  rcases hb : (isSy m t && isCutsOf m t cuts) with _ | _
  · have hc : (cutsC m t cuts == 0) = false := by
      unfold cutsC
      cases h1 : isSy m t <;> cases h2 : isCutsOf m t cuts <;> simp_all
    unfold isDes
    rw [hb]
    generalize cutsC m t cuts = c at *
    simp -dsimp -implicitDefEqProofs only [go_sem, ↓reduceIte]
    refine sCallT_one hq ?_
    simp -dsimp -implicitDefEqProofs only [go_sem, ↓reduceIte, hc]
    ((repeat' (with_reducible refine And.intro ?_ ?_)); all_goals try (first | omega | (refine ⟨?_, ?_⟩ <;> omega) | (exact rfl)))
    all_goals trace_state
  · obtain ⟨h5, h6⟩ := Bool.and_eq_true_iff.1 hb
    have hn := isSy_num h5
    obtain ⟨h7, h8⟩ := isCutsOf_out h6
    have hr := c_partFaults m t cuts (isSy_mk h5) (by omega) (by omega) (by omega) (fun i hi => hn.2.2.2.2 i hi) (by omega) (fun x hx => key1_out (h8 x hx))
    have hc : cutsC m t cuts = 0 := by rw [cutsC, h5, h6]; rfl
    rw [hc] at hq
    unfold isDes
    rw [hb]
    generalize falses m t cuts = F at *
    simp -dsimp -implicitDefEqProofs only [go_sem, ↓reduceIte]
    refine sCallT_one hq ?_
    simp -dsimp -implicitDefEqProofs only [go_sem, ↓reduceIte]
    (refine sCallS_one (hr) (by simp [noLabs, labs, labsL, isClo]) ?_)
    simp -dsimp -implicitDefEqProofs only [go_sem, ↓reduceIte, hf0]
    ((repeat' (with_reducible refine And.intro ?_ ?_)); all_goals try (first | omega | (refine ⟨?_, ?_⟩ <;> omega) | (exact rfl)))
    all_goals trace_state
theorem c_designCode (m : MkM) (t cuts : List (List Int)) (h : t.length ≤ 1048576) (h2 : ∀ x ∈ t, x.length ≤ 1048576) (h3 : cuts.length ≤ 1048576) (h4 : ∀ x ∈ cuts, x.length ≤ 1048576) : Fn Tryz.prog 73 [eSy m t, eIss cuts] true (· = eI (if isDes m t cuts then 0 else 1)) := by
  refine Fn.of_vcN 9 [.tmp 4] Tryz.func73 rfl rfl rfl rfl rfl (of_decide_eq_true rfl) ?_
  have hq := c_iIsDesign m t cuts h h2 h3 h4
  simp -dsimp -implicitDefEqProofs only [go_sem, ↓reduceIte]
  refine sCallT_one hq ?_
  cases isDes m t cuts <;> simp -dsimp -implicitDefEqProofs only [go_sem, ↓reduceIte]
  all_goals ((repeat' (with_reducible refine And.intro ?_ ?_)); all_goals try (first | omega | (refine ⟨?_, ?_⟩ <;> omega) | (exact rfl)))
end Go.Vc


set_option linter.unusedVariables false
set_option linter.unusedSimpArgs false
set_option linter.unnecessarySimpa false
namespace Go.Vc
open Go.Proofs
set_option maxRecDepth 100000
set_option maxHeartbeats 4000000
theorem onTo_in {t cuts : List (List Int)} {k r : Nat} (h1 : ((t.getD r []).getD k 0 == 1) = true) : ∀ n, r < n → cuts.getD r [] ∈ onTo t cuts k n
  | 0, h => by omega
  | n + 1, h => by
    rw [onTo_succ]
    by_cases e : r = n
    · subst e; rw [if_pos h1]; simp
    · have := onTo_in h1 (cuts := cuts) n (by omega)
      split
      · exact List.mem_append_left _ this
      · exact this
theorem rises_of {xs : List Int} {n : Int} (hp : xs.Pairwise (· < ·)) (hb : ∀ x ∈ xs, 0 ≤ x ∧ x < n) : rises xs n = true := by
  unfold rises
  rw [List.all_eq_true]
  intro i hi
  have hi := List.mem_range.1 hi
  have h1 := hb _ (List.getElem_mem hi)
  have e : xs.getD i 0 = xs[i] := by simp [List.getD_eq_getElem?_getD, hi]
  simp only [riseAt, Bool.and_eq_true, Bool.or_eq_true, decide_eq_true_eq, beq_iff_eq]
  rw [e]
  refine ⟨h1, ?_⟩
  by_cases h0 : i = 0
  · exact .inl h0
  · have hi' : i - 1 < xs.length := by omega
    have e' : xs.getD (i - 1) 0 = xs[i - 1] := by simp [List.getD_eq_getElem?_getD, hi']
    rw [e']
    exact .inr (List.pairwise_iff_getElem.1 hp (i - 1) i hi' hi (by omega))
theorem lock_ok {m : MkM} {t cuts : List (List Int)} (hs : isSy m t = true) (hc : isCutsOf m t cuts = true) {k : Nat} (hk : k < (t.getD 0 []).length) : isLk0 m (lockAt m t cuts k) = true := by
  have hmk := isSy_mk hs
  have ⟨⟨n1, n2⟩, n3, n4⟩ := isMk_num hmk
  obtain ⟨c1, c2⟩ := isCutsOf_out hc
  simp only [isSy, Bool.and_eq_true] at hs
  have hd := hs.2
  unfold doorsOpen at hd
  rw [List.all_eq_true] at hd
  have hd := hd k (List.mem_range.2 hk)
  unfold doorOpen at hd
  obtain ⟨row, hrow, hr1⟩ := List.any_eq_true.1 hd
  obtain ⟨r, hr, rfl⟩ := List.getElem_of_mem hrow
  have hrt : t.getD r [] = t[r] := by simp [List.getD_eq_getElem?_getD, hr]
  have hin := onTo_in (cuts := cuts) (t := t) (k := k) (r := r) (by rw [hrt]; exact hr1) cuts.length (by omega)
  have hrc : r < cuts.length := by omega
  have hcr : cuts.getD r [] = cuts[r] := by simp [List.getD_eq_getElem?_getD, hrc]
  rw [hcr] at hin
  obtain ⟨k1, k2⟩ := key1_out (c2 _ (List.getElem_mem hrc))
  simp only [isLk0, Bool.and_eq_true, beq_iff_eq, List.all_eq_true]
  refine ⟨by rw [lockAt_len]; omega, fun x hx => ?_⟩
  simp only [lockAt, hull, List.mem_map, List.mem_range] at hx
  obtain ⟨i, hi, rfl⟩ := hx
  simp only [lockSet, Bool.and_eq_true, decide_eq_true_eq]
  have hil : i < cuts[r].length := by omega
  have hb := k2 _ (List.getElem_mem hil)
  constructor
  · have hm := mem_flt_of (p := hullAt (onTo t cuts k cuts.length) i) (n := m.depths.toNat) (j := cuts[r][i].toNat) (by omega) (by
      unfold hullAt
      rw [List.any_eq_true]
      refine ⟨cuts[r], hin, ?_⟩
      rw [beq_iff_eq, show cuts[r].getD i 0 = cuts[r][i] by simp [List.getD_eq_getElem?_getD, hil]]
      omega)
    intro h0
    have : hullSet m (onTo t cuts k cuts.length) i = [] := List.eq_nil_of_length_eq_zero h0
    unfold hullSet at this
    rw [this] at hm; cases hm
  · refine rises_of (flt_pair _ _) fun x hx => ?_
    obtain ⟨j, hj, rfl, _⟩ := flt_mem hx
    omega
theorem isOrd_out {t : List (List Int)} {os : List ItM} (h : isOrd t os = true) : os.length ≤ 20 ∧ ∀ i (hi : i < os.length), 0 ≤ os[i].index ∧ os[i].index < (if os[i].key = true then (t.length : Int) else (t.getD 0 []).length) ∧ 1 ≤ os[i].copies ∧ os[i].copies ≤ 50 := by
  simp only [isOrd, Bool.and_eq_true, decide_eq_true_eq, List.all_eq_true] at h
  refine ⟨h.2, fun i hi => ?_⟩
  have := h.1 _ (List.getElem_mem hi)
  simp only [itOk, isIn, Bool.and_eq_true, decide_eq_true_eq] at this
  omega
theorem i10 : ((1 : Int) == 0) = false := rfl
theorem n10 : ((1 : Int) != 0) = true := rfl
def stockCode (m : MkM) (t cuts : List (List Int)) (os : List ItM) : Int := if isDes m t cuts = true then (if isOrd t os = true then 0 else 2) else 1
theorem c_l29Code (m : MkM) (t cuts : List (List Int)) (os : List ItM) (h : t.length ≤ 1048576) (h2 : ∀ x ∈ t, x.length ≤ 1048576) (h3 : cuts.length ≤ 1048576) (h4 : ∀ x ∈ cuts, x.length ≤ 1048576) (h5 : os.length ≤ 1048576) : Fn Tryz.prog 36 [eSy m t, eIss cuts, eIts os] true (· = eI (stockCode m t cuts os)) := by
  refine Fn.of_vcN 20 [.tmp 6] Tryz.func36 rfl rfl rfl rfl rfl (of_decide_eq_true rfl) ?_
  have hq := c_l21Code m t cuts h h2 h3 h4
  unfold stockCode
  rcases hb : isDes m t cuts with _ | _
  · rw [hb] at hq
    simp -dsimp -implicitDefEqProofs only [go_sem, ↓reduceIte]
    refine sCallT_one hq ?_
    simp -dsimp -implicitDefEqProofs only [go_sem, ↓reduceIte, i10, n10]
    ((repeat' (with_reducible refine And.intro ?_ ?_)); all_goals try (first | omega | (refine ⟨?_, ?_⟩ <;> omega) | (exact rfl)))
  · have hn := isSy_num (isDes_out hb).1
    have hr := c_l29Valid m t os (by omega) h h2 (by omega)
    rw [hb] at hq
    simp -dsimp -implicitDefEqProofs only [go_sem, ↓reduceIte]
    refine sCallT_one hq ?_
    simp -dsimp -implicitDefEqProofs only [go_sem, ↓reduceIte]
    refine sCallT_one hr ?_
    cases isOrd t os <;> simp -dsimp -implicitDefEqProofs only [go_sem, ↓reduceIte]
    all_goals ((repeat' (with_reducible refine And.intro ?_ ?_)); all_goals try (first | omega | (refine ⟨?_, ?_⟩ <;> omega) | (exact rfl)))
theorem c_designOrderCode (m : MkM) (t cuts : List (List Int)) (os : List ItM) (h : t.length ≤ 1048576) (h2 : ∀ x ∈ t, x.length ≤ 1048576) (h3 : cuts.length ≤ 1048576) (h4 : ∀ x ∈ cuts, x.length ≤ 1048576) (h5 : os.length ≤ 1048576) : Fn Tryz.prog 43 [eSy m t, eIss cuts, eIts os] true (· = eI (stockCode m t cuts os)) := by
  refine Fn.of_vcN 17 [.tmp 6] Tryz.func43 rfl rfl rfl rfl rfl (of_decide_eq_true rfl) ?_
  have hq := c_designCode m t cuts h h2 h3 h4
  have hr := c_orderCode m t os h h2 h5
  unfold stockCode
  rcases hb : isDes m t cuts with _ | _
  · rw [hb] at hq
    simp -dsimp -implicitDefEqProofs only [go_sem, ↓reduceIte]
    refine sCallT_one hq ?_
    simp -dsimp -implicitDefEqProofs only [go_sem, ↓reduceIte, i10, n10]
    ((repeat' (with_reducible refine And.intro ?_ ?_)); all_goals try (first | omega | (refine ⟨?_, ?_⟩ <;> omega) | (exact rfl)))
  · rw [hb] at hq
    rw [ordCode, (isDes_out hb).1] at hr
    simp -dsimp -implicitDefEqProofs only [go_sem, ↓reduceIte]
    refine sCallT_one hq ?_
    simp -dsimp -implicitDefEqProofs only [go_sem, ↓reduceIte]
    refine sCallT_one hr ?_
    cases isOrd t os <;> simp -dsimp -implicitDefEqProofs only [go_sem, ↓reduceIte]
    all_goals ((repeat' (with_reducible refine And.intro ?_ ?_)); all_goals try (first | omega | (refine ⟨?_, ?_⟩ <;> omega) | (exact rfl)))
end Go.Vc


set_option linter.unusedVariables false
set_option linter.unusedSimpArgs false
set_option linter.unnecessarySimpa false
namespace Go.Vc
open Go.Proofs
set_option maxRecDepth 100000
theorem cmpN_self (x : Int) : cmpN x x = 0 := by unfold cmpN; simp
theorem cmpN_swap (x y : Int) : cmpN y x = - cmpN x y := by unfold cmpN; split <;> split <;> first | omega | (split <;> omega) | simp
theorem cmpL_self : ∀ xs : List Int, cmpL xs xs = 0
  | [] => rfl
  | x :: xs => by rw [cmpL, cmpN_self, if_neg (by simp), cmpL_self xs]
theorem cmpL_swap : ∀ xs ys : List Int, cmpL ys xs = - cmpL xs ys
  | [], [] => rfl
  | [], _ :: _ => rfl
  | _ :: _, [] => rfl
  | x :: xs, y :: ys => by
    rw [cmpL, cmpL, cmpN_swap x y]
    by_cases h : cmpN x y = 0
    · rw [h, if_neg (by simp), if_neg (by simp), cmpL_swap xs ys]
    · rw [if_pos (by simp; omega), if_pos (by simpa using h)]
theorem cmpL_pre (c : List Int) (d e : Int) (xs ys : List Int) (h : d < e) : cmpL (c ++ d :: xs) (c ++ e :: ys) < 0 := by
  induction c with
  | nil =>
    have : cmpN d e = -1 := by unfold cmpN; rw [if_pos h]
    simp only [uq2, cmpL, this]
    rw [if_pos (by decide)]
    decide
  | cons x c ih =>
    rw [uq1, uq1, cmpL, cmpN_self, if_neg (by simp)]
    exact ih
theorem keysFrom_pre {m : MkM} : ∀ (n : Nat) (c k : List Int), k ∈ keysFrom m n c → ∃ r, k = c ++ r
  | 0, c, k, h => by
    simp only [keysFrom] at h
    split at h
    · cases h
    · rw [List.mem_singleton] at h
      exact ⟨[], by rw [h, List.append_nil]⟩
  | n + 1, c, k, h => by
    simp only [keysFrom, List.mem_flatMap, List.mem_range] at h
    obtain ⟨d, hd, h⟩ := h
    split at h
    · obtain ⟨r, hr⟩ := keysFrom_pre n _ k h
      exact ⟨(d : Int) :: r, by rw [hr]; simp⟩
    · cases h
theorem keysFrom_up {m : MkM} : ∀ (n : Nat) (c : List Int), (keysFrom m n c).Pairwise fun a b => cmpL a b < 0
  | 0, c => by
    simp only [keysFrom]
    split
    · exact .nil
    · exact List.pairwise_singleton ..
  | n + 1, c => by
    simp only [keysFrom]
    rw [List.pairwise_flatMap]
    refine ⟨fun d hd => ?_, ?_⟩
    · split
      · exact keysFrom_up n _
      · exact .nil
    · refine List.Pairwise.imp ?_ (List.pairwise_lt_range (n := m.depths.toNat))
      intro d e hde x hx y hy
      split at hx
      · split at hy
        · obtain ⟨r, rfl⟩ := keysFrom_pre n _ x hx
          obtain ⟨s, rfl⟩ := keysFrom_pre n _ y hy
          rw [List.append_assoc, List.append_assoc]
          exact cmpL_pre c _ _ _ _ (by omega)
        · cases hy
      · cases hx
theorem allK_split {m : MkM} (hm : 0 ≤ m.chambers) {k : List Int} (h : KeyOk m k) : ∃ a b, allK m = a ++ k :: b ∧ (∀ x ∈ a, cmpL x k < 0) ∧ (∀ x ∈ b, 0 < cmpL x k) ∧ k ∉ a ∧ k ∉ b := by
  obtain ⟨a, b, e1, _⟩ := next_behind h k.length (Nat.le_refl _)
  rw [Nat.sub_self, List.take_zero] at e1
  have e2 : allK m = a ++ k :: b := by
    rw [← e1]; unfold allK
    congr 1
    have := h.len; omega
  have hp := keysFrom_up (m := m) m.chambers.toNat []
  rw [show keysFrom m m.chambers.toNat [] = a ++ k :: b from e2, List.pairwise_append] at hp
  obtain ⟨_, p2, p3⟩ := hp
  rw [List.pairwise_cons] at p2
  have h1 : ∀ x ∈ a, cmpL x k < 0 := fun x hx => p3 x hx k (List.mem_cons_self ..)
  have h2 : ∀ x ∈ b, 0 < cmpL x k := fun x hx => by
    have := p2.1 x hx
    rw [cmpL_swap k x]; omega
  refine ⟨a, b, e2, h1, h2, fun hk => ?_, fun hk => ?_⟩
  · have := h1 k hk; rw [cmpL_self] at this; omega
  · have := h2 k hk; rw [cmpL_self] at this; omega
theorem set_at {α : Type} {A B : List α} {x y : α} {n : Nat} (h : n = A.length) : (A ++ x :: B).set n y = A ++ y :: B := by
  subst h
  induction A with
  | nil => rfl
  | cons a A ih => simp [ih]
theorem getD_mid {α : Type} {A B : List α} {x d : α} {n : Nat} (h : n = A.length) : (A ++ x :: B).getD n d = x := by
  subst h
  simp [List.getD_eq_getElem?_getD]
def addKc (cuts : List (List Int)) (k : List Int) (x : ItM) : Int := if (x.key && decide (cuts.getD x.index.toNat [] = k)) = true then x.copies else 0
def kcnt (cuts : List (List Int)) (os : List ItM) (k : List Int) : Nat → Int
  | 0 => 0
  | n + 1 => kcnt cuts os k n + addKc cuts k (os.getD n default)
theorem kcnt_succ (cuts : List (List Int)) (os : List ItM) (k : List Int) (n : Nat) : kcnt cuts os k (n + 1) = kcnt cuts os k n + addKc cuts k (os.getD n default) := rfl
def ordK (m : MkM) (cuts : List (List Int)) (os : List ItM) (n : Nat) : List (List Int) := (allK m).filter fun k => decide (0 < kcnt cuts os k n)
def ordC (m : MkM) (cuts : List (List Int)) (os : List ItM) (n : Nat) : List Int := (ordK m cuts os n).map fun k => kcnt cuts os k n
def keysR (m : MkM) (t cuts : List (List Int)) (os : List ItM) : AV :=
  if stockCode m t cuts os = 0 then .tup [eIss (ordK m cuts os os.length), eIs (ordC m cuts os os.length), eI 0] else .tup [eIss [], eIs [], eI (stockCode m t cuts os)]
theorem kcnt_in {cuts : List (List Int)} {os : List ItM} {k : List Int} (h : ∀ i (hi : i < os.length), 1 ≤ os[i].copies ∧ os[i].copies ≤ 50) : ∀ n : Nat, n ≤ os.length → 0 ≤ kcnt cuts os k n ∧ kcnt cuts os k n ≤ 50 * (n : Int)
  | 0, _ => by simp [kcnt]
  | n + 1, hn => by
    have ih := kcnt_in (cuts := cuts) (k := k) h n (by omega)
    have hi : n < os.length := by omega
    have hx := h n hi
    rw [kcnt_succ, List.getD_eq_getElem?_getD, List.getElem?_eq_getElem hi]
    unfold addKc
    simp only [Option.getD_some]
    split <;> (push_cast; omega)
theorem ordK_zero (m : MkM) (cuts : List (List Int)) (os : List ItM) : ordK m cuts os 0 = [] := by
  unfold ordK; simp [kcnt]
theorem ordC_zero (m : MkM) (cuts : List (List Int)) (os : List ItM) : ordC m cuts os 0 = [] := by
  unfold ordC; rw [ordK_zero]; rfl
structure OkStep (K : List (List Int)) (C : List Int) (k : List Int) (c : Int) (K' : List (List Int)) (C' : List Int) (p : Nat) : Prop where
  le : p ≤ K.length
  low : ∀ h (hh : h < K.length), decide (cmpL K[h] k < 0) = decide (h < p)
  fnd : ∀ h : p < K.length, (cmpL K[p] k == 0) = true → K' = K ∧ C' = C.set p (C.getD p 0 + c)
  new : (∀ h : p < K.length, (cmpL K[p] k == 0) = false) → K' = K.take p ++ k :: K.drop p ∧ C' = (C.take p ++ (0 : Int) :: C.drop p).set p (0 + c)
  len : C.length = K.length
theorem mem_copies {os : List ItM} {n : Nat} (hn : n < os.length) : os.getD n default = os[n] := by
  rw [List.getD_eq_getElem?_getD, List.getElem?_eq_getElem hn]; rfl
theorem ord_other {m : MkM} {cuts : List (List Int)} {os : List ItM} {n : Nat} (hn : n < os.length) (hk : os[n].key = false) : ordK m cuts os (n + 1) = ordK m cuts os n ∧ ordC m cuts os (n + 1) = ordC m cuts os n := by
  have e : ∀ k, kcnt cuts os k (n + 1) = kcnt cuts os k n := fun k => by
    rw [kcnt_succ, mem_copies hn, addKc, hk, Bool.false_and, if_neg (by simp)]; omega
  have e1 : ordK m cuts os (n + 1) = ordK m cuts os n := by unfold ordK; simp only [e]
  exact ⟨e1, by unfold ordC; rw [e1]; simp only [e]⟩
theorem ord_step {m : MkM} {cuts : List (List Int)} {os : List ItM} {n : Nat} (hm : 0 ≤ m.chambers) (h : ∀ i (hi : i < os.length), 1 ≤ os[i].copies ∧ os[i].copies ≤ 50) (hn : n < os.length) (hk : os[n].key = true) (hok : KeyOk m (cuts.getD os[n].index.toNat [])) :
    ∃ p, OkStep (ordK m cuts os n) (ordC m cuts os n) (cuts.getD os[n].index.toNat []) os[n].copies (ordK m cuts os (n + 1)) (ordC m cuts os (n + 1)) p := by
  obtain ⟨a, b, hs, ha, hb, hka, hkb⟩ := allK_split hm hok
  have hc := h n hn
  have hself := kcnt_succ cuts os (cuts.getD os[n].index.toNat []) n
  rw [mem_copies hn, addKc, hk, Bool.true_and, decide_eq_true rfl, if_pos rfl] at hself
  have hoth : ∀ x, x ≠ cuts.getD os[n].index.toNat [] → kcnt cuts os x (n + 1) = kcnt cuts os x n := fun x hx => by
    rw [kcnt_succ, mem_copies hn, addKc, hk, Bool.true_and, decide_eq_false (fun e => hx e.symm), if_neg (by simp)]; omega
  have h0 := fun x => (kcnt_in (cuts := cuts) (k := x) h n (by omega)).1
  generalize os[n].copies = c at *
  generalize cuts.getD os[n].index.toNat [] = k at *
  have hfa : a.filter (fun k => decide (0 < kcnt cuts os k (n + 1))) = a.filter (fun k => decide (0 < kcnt cuts os k n)) := List.filter_congr fun x hx => by rw [hoth x (fun e => hka (e ▸ hx))]
  have hfb : b.filter (fun k => decide (0 < kcnt cuts os k (n + 1))) = b.filter (fun k => decide (0 < kcnt cuts os k n)) := List.filter_congr fun x hx => by rw [hoth x (fun e => hkb (e ▸ hx))]
  have hA : ∀ x ∈ a.filter (fun k => decide (0 < kcnt cuts os k n)), cmpL x k < 0 ∧ x ≠ k := fun x hx => ⟨ha x (List.mem_filter.1 hx).1, fun e => hka (e ▸ (List.mem_filter.1 hx).1)⟩
  have hB : ∀ x ∈ b.filter (fun k => decide (0 < kcnt cuts os k n)), 0 < cmpL x k ∧ x ≠ k := fun x hx => ⟨hb x (List.mem_filter.1 hx).1, fun e => hkb (e ▸ (List.mem_filter.1 hx).1)⟩
  have hK1 : ordK m cuts os (n + 1) = a.filter (fun k => decide (0 < kcnt cuts os k n)) ++ k :: b.filter (fun k => decide (0 < kcnt cuts os k n)) := by
    unfold ordK
    rw [hs, List.filter_append, List.filter_cons, hfa, hfb, if_pos (decide_eq_true (by have := h0 k; omega))]
  have hK0 : ordK m cuts os n = a.filter (fun k => decide (0 < kcnt cuts os k n)) ++ (if decide (0 < kcnt cuts os k n) = true then k :: b.filter (fun k => decide (0 < kcnt cuts os k n)) else b.filter (fun k => decide (0 < kcnt cuts os k n))) := by
    unfold ordK
    rw [hs, List.filter_append, List.filter_cons]
  have hmA : ∀ A : List (List Int), (∀ x ∈ A, x ≠ k) → A.map (fun k => kcnt cuts os k (n + 1)) = A.map (fun k => kcnt cuts os k n) := fun A h => List.map_congr_left fun x hx => hoth x (h x hx)
  generalize a.filter (fun k => decide (0 < kcnt cuts os k n)) = A at *
  generalize b.filter (fun k => decide (0 < kcnt cuts os k n)) = D at *
  have hA1 := hmA A fun x hx => (hA x hx).2
  have hD1 := hmA D fun x hx => (hB x hx).2
  have hlow : ∀ E : List (List Int), (∀ x ∈ E, 0 ≤ cmpL x k) → ∀ h (hh : h < (A ++ E).length), decide (cmpL (A ++ E)[h] k < 0) = decide (h < A.length) := by
    intro E hE i hi
    rw [decide_eq_decide, List.getElem_append]
    split
    · rename_i h1
      have := (hA _ (List.getElem_mem h1)).1
      omega
    · rename_i h1
      have := hE _ (List.getElem_mem (l := E) (n := i - A.length) (by rw [List.length_append] at hi; omega))
      omega
  refine ⟨A.length, ?_⟩
  unfold ordC
  rw [hK1, hK0]
  by_cases hq : 0 < kcnt cuts os k n
  · rw [if_pos (decide_eq_true hq)]
    have hg : ∀ h : A.length < (A ++ k :: D).length, (A ++ k :: D)[A.length] = k := fun h => by rw [List.getElem_append_right (Nat.le_refl _)]; simp
    refine ⟨by simp, hlow (k :: D) ?_, fun h _ => ⟨rfl, ?_⟩, fun hh => ?_, by simp⟩
    · intro x hx
      rcases List.mem_cons.1 hx with rfl | hx
      · rw [cmpL_self]; omega
      · have := (hB x hx).1; omega
    · rw [List.map_append, List.map_cons, hA1, hD1, List.map_append, List.map_cons, hself, getD_mid (by simp), set_at (by simp)]
    · have := hh (by simp)
      rw [hg _, cmpL_self] at this
      cases this
  · rw [if_neg (by simpa using hq)]
    have hz : kcnt cuts os k n = 0 := by have := h0 k; omega
    refine ⟨by simp, hlow D ?_, fun h hf => ?_, fun _ => ⟨?_, ?_⟩, by simp⟩
    · intro x hx
      have := (hB x hx).1; omega
    · rw [List.getElem_append_right (Nat.le_refl _)] at hf
      have hl : A.length - A.length < D.length := by rw [List.length_append] at h; omega
      have := (hB _ (List.getElem_mem hl)).1
      rw [beq_iff_eq] at hf
      omega
    · rw [List.take_left', List.drop_left'] <;> rfl
    · rw [List.map_append, List.map_cons, hA1, hD1, hself, hz, List.map_append, List.take_left' (by simp), List.drop_left' (by simp), set_at (by simp)]
end Go.Vc


set_option linter.unusedVariables false
set_option linter.unusedSimpArgs false
set_option linter.unnecessarySimpa false
namespace Go.Vc
open Go.Proofs
set_option maxRecDepth 100000
def keyV (o : Option (List Int)) : AV := match o with
  | some k => eIs k
  | none => .val (.slice none 0 0)
theorem keyV_some (k : List Int) : keyV (some k) = eIs k := rfl
theorem keyV_none : keyV none = .val (.slice none 0 0) := rfl
theorem optR_eq (o : Option (List Int)) : optR o = .tup [keyV o, eB o.isSome] := by cases o <;> rfl
theorem next_all {m : MkM} (hm : 0 ≤ m.chambers) {i : Nat} {k : List Int} (h : (allK m)[i]? = some k) : nextTo m k k.length = (allK m)[i + 1]? := by
  obtain ⟨hi, e⟩ := List.getElem?_eq_some_iff.1 h
  have hs : allK m = (allK m).take i ++ k :: (allK m).drop (i + 1) := by
    rw [← e, ← List.drop_eq_getElem_cons hi, List.take_append_drop]
  rw [nextTo_all hm hs, List.head?_drop]
structure SS where
  tries : Nat
  stop : Bool
  found : List (List (List Int))
structure SSok (m : MkM) (lim n : Nat) (b : Bool) (z : SS) : Prop where
  tr : z.tries ≤ lim
  no : b = false → z.found = []
  one : z.found.length ≤ 1
  fl : ∀ f ∈ z.found, f.length = n ∧ ∀ k ∈ f, k ∈ allK m
end Go.Vc


set_option linter.unusedVariables false
set_option linter.unusedSimpArgs false
set_option linter.unnecessarySimpa false
namespace Go.Vc
open Go.Proofs
set_option maxRecDepth 100000
set_option maxHeartbeats 4000000
theorem firstD_not {f : Nat → Option (List Int)} {d : Nat} (h : f d ≠ none) : ∀ D, d < D → firstD f D ≠ none
  | 0, hd => absurd hd (Nat.not_lt_zero _)
  | D + 1, hd => by
    simp only [firstD]
    cases hh : firstD f D with
    | some k => exact fun h => by cases h
    | none =>
      by_cases e : d = D
      · subst e; exact h
      · exact absurd hh (firstD_not h D (by omega))
theorem firstK_not {m : MkM} : ∀ (n : Nat) (c t : List Int), t.length = n → okTo m (c ++ t) = true → m.least ≤ (kindsTo (c ++ t) (c ++ t).length : Int) → (∀ x ∈ t, 0 ≤ x ∧ x < m.depths) → firstK m n c ≠ none
  | 0, c, t, hl, ho, hk, hx => by
    obtain rfl := List.eq_nil_of_length_eq_zero hl
    rw [List.append_nil] at ho hk
    rw [firstK, if_pos ⟨ho, hk⟩]
    exact fun h => by cases h
  | n + 1, c, t, hl, ho, hk, hx => by
    cases t with
    | nil => cases hl
    | cons d t =>
      have hd := hx d (List.mem_cons_self ..)
      have hoc : okTo m c = true := by
        have := okTo_take' ho (i := c.length) (by simp)
        rwa [List.take_left'] at this
        rfl
      rw [firstK, if_pos hoc]
      refine firstD_not (d := d.toNat) ?_ _ (by omega)
      have e : ((d.toNat : Nat) : Int) = d := by omega
      rw [e]
      have e2 : c ++ d :: t = (c ++ [d]) ++ t := by simp
      rw [e2] at ho hk
      exact firstK_not n (c ++ [d]) t (by simpa using hl) ho hk fun x hx2 => hx x (List.mem_cons_of_mem _ hx2)
def zig (ch dp : Int) : List Int := (([0, 1, 2, 3, 4, 5] : List Int).map fun x => if x < dp then x else if (x - dp).tmod 2 = 0 then dp - 2 else dp - 1).take ch.toNat
def zigB (C D : Int) : Bool :=
  (zig C D).length == C.toNat && (List.range (zig C D).length).all (fun i => decide (runAt (zig C D) i ≤ 1) && (i == 0 || decide (absN ((zig C D).getD i 0 - (zig C D).getD (i - 1) 0) ≤ 1))) &&
    decide ((if D < C then D else C) ≤ (kindsTo (zig C D) (zig C D).length : Int)) && (zig C D).all fun x => decide (0 ≤ x) && decide (x < D)
theorem zigB_all : ((List.range 5).all fun c => (List.range 7).all fun d => zigB ((c : Int) + 2) ((d : Int) + 2)) = true := by decide +kernel
theorem zig_ok {m : MkM} (hm : isMk m = true) : (zig m.chambers m.depths).length = m.chambers.toNat ∧ okTo m (zig m.chambers m.depths) = true ∧ m.least ≤ (kindsTo (zig m.chambers m.depths) (zig m.chambers m.depths).length : Int) ∧ ∀ x ∈ zig m.chambers m.depths, 0 ≤ x ∧ x < m.depths := by
  have hnum := isMk_num hm
  have hs := isMk_same hm
  have hl : m.least ≤ if m.depths < m.chambers then m.depths else m.chambers := by
    simp only [isMk, isIn, Bool.and_eq_true, decide_eq_true_eq] at hm
    exact hm.2.2
  have h1 := List.all_eq_true.1 zigB_all (m.chambers.toNat - 2) (List.mem_range.2 (by omega))
  have h2 := List.all_eq_true.1 h1 (m.depths.toNat - 2) (List.mem_range.2 (by omega))
  rw [show ((m.chambers.toNat - 2 : Nat) : Int) + 2 = m.chambers by omega, show ((m.depths.toNat - 2 : Nat) : Int) + 2 = m.depths by omega] at h2
  unfold zigB at h2
  simp only [Bool.and_eq_true, beq_iff_eq, decide_eq_true_eq] at h2
  obtain ⟨⟨⟨g1, g2⟩, g3⟩, g4⟩ := h2
  generalize zig m.chambers m.depths = z at *
  refine ⟨g1, ?_, by omega, fun x hx => ?_⟩
  · unfold okTo
    rw [List.all_eq_true] at g2 ⊢
    intro i hi
    have := g2 i hi
    simp only [Bool.and_eq_true, decide_eq_true_eq, Bool.or_eq_true, beq_iff_eq] at this ⊢
    refine ⟨by omega, ?_⟩
    unfold stepAt
    rcases this.2 with h | h
    · simp [h]
    · rw [decide_eq_true (show absN (z.getD i 0 - z.getD (i - 1) 0) ≤ m.step by omega)]; simp
  · have := List.all_eq_true.1 g4 x hx
    simpa using this
theorem firstK_some {m : MkM} (hm : isMk m = true) : ∃ k, firstK m m.chambers.toNat [] = some k := by
  obtain ⟨h1, h2, h3, h4⟩ := zig_ok hm
  have := firstK_not m.chambers.toNat [] (zig m.chambers m.depths) h1 h2 h3 h4
  cases hh : firstK m m.chambers.toNat [] with
  | some k => exact ⟨k, rfl⟩
  | none => exact absurd hh this
end Go.Vc


set_option linter.unusedVariables false
set_option linter.unusedSimpArgs false
set_option linter.unnecessarySimpa false
namespace Go.Vc
open Go.Proofs
set_option maxRecDepth 100000
set_option maxHeartbeats 8000000
def oKs (m : MkM) (cuts : List (List Int)) (os : List ItM) (i : Nat) : List (List Int) := ((allK m).take i).filter fun k => decide (0 < kcnt cuts os k os.length)
def oCs (m : MkM) (cuts : List (List Int)) (os : List ItM) (i : Nat) : List Int := (oKs m cuts os i).map fun k => kcnt cuts os k os.length
theorem oKs_succ {m : MkM} {cuts : List (List Int)} {os : List ItM} {i : Nat} {k : List Int} (h : (allK m)[i]? = some k) :
    (0 < kcnt cuts os k os.length → oKs m cuts os (i + 1) = oKs m cuts os i ++ [k] ∧ oCs m cuts os (i + 1) = oCs m cuts os i ++ [kcnt cuts os k os.length]) ∧ (¬ 0 < kcnt cuts os k os.length → oKs m cuts os (i + 1) = oKs m cuts os i ∧ oCs m cuts os (i + 1) = oCs m cuts os i) := by
  have e : oKs m cuts os (i + 1) = oKs m cuts os i ++ if 0 < kcnt cuts os k os.length then [k] else [] := by
    unfold oKs
    rw [List.take_add_one, h, List.filter_append]
    congr 1
    simp only [Option.toList_some, List.filter_cons, List.filter_nil, decide_eq_true_eq]
  refine ⟨fun hp => ?_, fun hp => ?_⟩
  · rw [if_pos hp] at e
    exact ⟨e, by unfold oCs; rw [e]; simp⟩
  · rw [if_neg hp, List.append_nil] at e
    exact ⟨e, by unfold oCs; rw [e]⟩
theorem oKs_end (m : MkM) (cuts : List (List Int)) (os : List ItM) : oKs m cuts os (allK m).length = ordK m cuts os os.length ∧ oCs m cuts os (allK m).length = ordC m cuts os os.length := by
  have e : oKs m cuts os (allK m).length = ordK m cuts os os.length := by unfold oKs ordK; rw [List.take_length]
  exact ⟨e, by unfold oCs ordC; rw [e]⟩
theorem allK_len {m : MkM} (hm : isMk m = true) : (allK m).length ≤ 16777216 := by
  have h1 := keysFrom_len m hm m.chambers.toNat []
  have ⟨⟨n1, n2⟩, n3, n4⟩ := isMk_num hm
  refine Nat.le_trans h1 (Nat.le_trans (Nat.pow_le_pow_right (by omega) (show m.chambers.toNat ≤ 8 by omega)) (by decide))
theorem oKs_len {m : MkM} (hm : isMk m = true) (cuts : List (List Int)) (os : List ItM) (i : Nat) : (oKs m cuts os i).length ≤ 16777216 := by
  unfold oKs
  refine Nat.le_trans (List.length_filter_le ..) ?_
  have := allK_len hm
  rw [List.length_take]; omega
theorem Fn.nilS {P : Program} {f : FuncId} {args : List AV} {post : AV → Prop} (h : Fn P f args false (fun x => ∃ r, nlT x r ∧ post r)) : Fn P f args false post :=
  ⟨h.1, fun w S vs h1 hk h2 h3 => (h.2 w S vs h1 hk h2 h3).mono fun _ _ ⟨x, v, g1, ⟨r, g2, g3⟩, g4, g5⟩ => ⟨r, v, g1, g3, g4, by
    simp only [FnRes, uq0, if_false] at g5 ⊢
    exact (nlT_out (Own.rd _ _ g5) g2).rd_of (fun _ h => h) fun b hb => by cases hb⟩⟩
theorem c_sOrderKeys (m : MkM) (t cuts : List (List Int)) (os : List ItM) (h : t.length ≤ 1048576) (h2 : ∀ x ∈ t, x.length ≤ 1048576) (h3 : cuts.length ≤ 1048576) (h4 : ∀ x ∈ cuts, x.length ≤ 1048576) (h5 : os.length ≤ 1048576) : Fn Tryz.prog 8 [eSy m t, eIss cuts, eIts os] false (· = keysR m t cuts os) := by
  refine Fn.nilS (Fn.mono (post := fun x => nlT x (keysR m t cuts os)) (Fn.of_vcS 81 [.tmp 6, .tmp 7, .tmp 8] Tryz.func8 rfl rfl rfl rfl rfl (of_decide_eq_true rfl) ?_) fun x hx => ⟨_, hx, rfl⟩)
  have hq := c_l29Code m t cuts os h h2 h3 h4 h5
  unfold keysR
  rcases hb : (isDes m t cuts && isOrd t os) with _ | _
  · have hne : stockCode m t cuts os ≠ 0 := by
      unfold stockCode
      cases h6 : isDes m t cuts <;> cases h7 : isOrd t os <;> simp_all
    rw [if_neg hne]
    have hne' : (stockCode m t cuts os != 0) = true := by simp [hne]
    generalize stockCode m t cuts os = c at *
    simp -dsimp -implicitDefEqProofs only [go_sem, ↓reduceIte]
    refine sCallT_one hq ?_
    simp -dsimp -implicitDefEqProofs only [go_sem, ↓reduceIte, hne']
    ((repeat' (with_reducible refine And.intro ?_ ?_)); all_goals try (first | omega | (refine ⟨?_, ?_⟩ <;> omega) | (exact rfl)))
    all_goals trace_state
  obtain ⟨hd, ho⟩ := Bool.and_eq_true_iff.1 hb
  have h0 : stockCode m t cuts os = 0 := by rw [stockCode, if_pos hd, if_pos ho]
  rw [if_pos h0]
  rw [h0] at hq
  obtain ⟨hs, hc⟩ := isDes_out hd
  have hmk := isSy_mk hs
  have ⟨⟨n1, n2⟩, n3, n4⟩ := isMk_num hmk
  obtain ⟨k1, k2, k3, k4, k5⟩ := isSy_num hs
  obtain ⟨c1, c2⟩ := isCutsOf_out hc
  obtain ⟨o1, o2⟩ := isOrd_out ho
  have hcop : ∀ i (hi : i < os.length), 1 ≤ os[i].copies ∧ os[i].copies ≤ 50 := fun i hi => ⟨(o2 i hi).2.2.1, (o2 i hi).2.2.2⟩
  obtain ⟨k0, hk0⟩ := firstK_some hmk
  have hf := (c_l02First m hmk m.chambers.toNat [] (by simp; omega) (fun x hx => by cases hx)).subs (args' := [eMk m, eNil]) (.cons (.refl _) (.cons (.nil _) .nil))
  unfold firstR at hf
  rw [hk0] at hf
  have hk1 : (allK m)[0]? = some k0 := by rw [← List.head?_eq_getElem?, ← firstK_all, hk0]
  have hf : Fn Tryz.prog 37 [eMk m, eNil] false (· = .tup [eIs k0, eB true]) := hf
  have hK := fun k (hk : k ∈ allK m) => allK_ok (m := m) (by omega) hk
  simp -dsimp -implicitDefEqProofs only [go_sem, ↓reduceIte]
  refine sCallT_one hq ?_
  simp -dsimp -implicitDefEqProofs only [go_sem, ↓reduceIte]
  ((repeat' (with_reducible refine And.intro ?_ ?_)); all_goals try (first | omega | (refine ⟨?_, ?_⟩ <;> omega) | (exact rfl)))
  refine sCallS_one hf (by simp [noLabs, labs, labsL, isClo]) ?_
  simp -dsimp -implicitDefEqProofs only [go_sem, ↓reduceIte]
  ((repeat' (with_reducible refine And.intro ?_ ?_)); all_goals try (first | omega | (refine ⟨?_, ?_⟩ <;> omega) | (exact rfl)))
  refine Later.up [1, 2, 3] [34, 53, 66, 67, 70, 71, 76] [23, 24] (allK m).length (fun i => True) (fun i => [(13, eB ((allK m)[i]?).isSome), (12, keyV ((allK m)[i]?)), (11, .ref 24 0 0 (oCs m cuts os i).length), (10, .ref 23 0 0 (oKs m cuts os i).length)]) (fun i => [(24, .row 0 ⟨1, false⟩ true ((oCs m cuts os i).map eI)), (23, .row 0 ⟨1, false⟩ (oKs m cuts os i).isEmpty ((oKs m cuts os i).map eIs))]) trivial ?_ rfl (fun i hi _ => ?_) (fun _ => ?_)
  · rw [hk1]
    simp -dsimp -implicitDefEqProofs only [go_sem, ↓reduceIte, oCs, oKs, List.take_zero, List.filter_nil, keyV_some, Option.isSome_some, List.isEmpty_nil, List.map_nil, List.length_nil]
    ((repeat' (with_reducible refine And.intro ?_ ?_)); all_goals try (first | omega | (refine ⟨?_, ?_⟩ <;> omega) | (exact rfl)))
    all_goals trace_state
  · have gi := get_some hi
    have hki := hK _ (List.getElem_mem hi)
    generalize (allK m)[i] = k at *
    obtain ⟨hs1, hs2⟩ := oKs_succ (m := m) (cuts := cuts) (os := os) gi
    have hbig := oKs_len hmk cuts os i
    have hCl : (oCs m cuts os i).length = (oKs m cuts os i).length := by unfold oCs; rw [List.length_map]
    have hnx := c_l02Next m k hmk hki.len hki.el
    rw [next_all (by omega) gi] at hnx
    have hE : ∀ C : List (List Int), C.isEmpty = false ∨ C.length = 0 := fun C => by cases C with | nil => exact .inr rfl | cons => exact .inl rfl
    have e2 := fun K : List (List Int) => show (K ++ [k]).map eIs = K.map eIs ++ [eIs k] by simp
    have e3 := fun K : List (List Int) => show (K ++ [k]).isEmpty = false by simp
    have hcn := fun n hn => kcnt_in (cuts := cuts) (k := k) hcop n hn
    generalize oKs m cuts os i = K at *
    generalize oCs m cuts os i = C at *
    generalize oKs m cuts os (i + 1) = K2 at *
    generalize oCs m cuts os (i + 1) = C2 at *
    rw [gi]
    generalize (allK m)[i + 1]? = o at *
    rw [optR_eq] at hnx
    clear hK
    have tK : (K.map eIs).take K.length = K.map eIs := List.take_of_length_le (by simp)
    simp -dsimp -implicitDefEqProofs only [pick_nil, pick_cons, look_nil, look_cons, dropB_nil, dropB_cons, inD_nil, inD_cons, inE_nil, inE_cons, or_t_l, or_f_l, Nat.reduceBEq, Nat.reduceDiv, Nat.reduceAdd, beq_self_eq_true, uq0, Bool.or_false, ↓reduceIte, Nat.reduceEqDiff, uq1, uq2]
    simp -dsimp -implicitDefEqProofs only [go_sem, ↓reduceIte, keyV_some, Option.isSome_some]
    ((repeat' (with_reducible refine And.intro ?_ ?_)); all_goals try (first | omega | (refine ⟨?_, ?_⟩ <;> omega) | (exact rfl)))
    refine Later.up [1, 2, 3, 10, 11, 12] [34, 53] [] os.length (fun _ => True) (fun j => [(15, eI j), (14, eI (kcnt cuts os k j))]) (fun _ => []) trivial ?_ rfl (fun j hj _ => ?_) (fun _ => ?_)
    · simp -dsimp -implicitDefEqProofs only [go_sem, ↓reduceIte, kcnt]
      ((repeat' (with_reducible refine And.intro ?_ ?_)); all_goals try (first | omega | (refine ⟨?_, ?_⟩ <;> omega) | (exact rfl)))
    · have gj := get_some hj
      have lj := lt_len hj
      have oj := o2 j hj
      have hcj := hcn j (by omega)
      rw [kcnt_succ, mem_copies hj]
      generalize os[j] = x at *
      generalize kcnt cuts os k j = s at *
      obtain ⟨xk, xi, xc⟩ := x
      simp only at oj
      unfold addKc
      cases xk with
      | false =>
        simp -dsimp -implicitDefEqProofs only [pick_nil, pick_cons, look_nil, look_cons, dropB_nil, dropB_cons, inD_nil, inD_cons, inE_nil, inE_cons, or_t_l, or_f_l, Nat.reduceBEq, Nat.reduceDiv, Nat.reduceAdd, beq_self_eq_true, uq0, Bool.or_false, ↓reduceIte, Nat.reduceEqDiff, uq1, uq2]
        simp -dsimp -implicitDefEqProofs only [go_sem, ↓reduceIte, gj, lj, Bool.false_and, Int.add_zero]
        ((repeat' (with_reducible refine And.intro ?_ ?_)); all_goals try (first | omega | (refine ⟨?_, ?_⟩ <;> omega) | (exact rfl)))
        all_goals first | (simp; done) | trace_state
      | true =>
        simp only [if_true] at oj
        have hci : xi.toNat < cuts.length := by omega
        have gc := get_some hci
        have hx1 := (key1_out (c2 _ (List.getElem_mem hci))).1
        have hsame := c_l01Same cuts[xi.toNat] k (by omega)
        have eg : cuts.getD xi.toNat [] = cuts[xi.toNat] := by rw [List.getD_eq_getElem?_getD, gc]; rfl
        rw [eg]
        generalize cuts[xi.toNat] = z at *
        cases hzk : decide (z = k) with
        | false =>
          rw [hzk] at hsame
          simp -dsimp -implicitDefEqProofs only [pick_nil, pick_cons, look_nil, look_cons, dropB_nil, dropB_cons, inD_nil, inD_cons, inE_nil, inE_cons, or_t_l, or_f_l, Nat.reduceBEq, Nat.reduceDiv, Nat.reduceAdd, beq_self_eq_true, uq0, Bool.or_false, ↓reduceIte, Nat.reduceEqDiff, uq1, uq2]
          simp -dsimp -implicitDefEqProofs only [go_sem, ↓reduceIte, gj, lj, gc]
          ((repeat' (with_reducible refine And.intro ?_ ?_)); all_goals try (first | omega | (refine ⟨?_, ?_⟩ <;> omega) | (exact rfl)))
          refine sCallT_one hsame ?_
          simp -dsimp -implicitDefEqProofs only [go_sem, ↓reduceIte, gj, gc, Bool.and_false, Int.add_zero]
          ((repeat' (with_reducible refine And.intro ?_ ?_)); all_goals try (first | omega | (refine ⟨?_, ?_⟩ <;> omega) | (exact rfl)))
          all_goals first | (simp; done) | trace_state
        | true =>
          rw [hzk] at hsame
          simp -dsimp -implicitDefEqProofs only [pick_nil, pick_cons, look_nil, look_cons, dropB_nil, dropB_cons, inD_nil, inD_cons, inE_nil, inE_cons, or_t_l, or_f_l, Nat.reduceBEq, Nat.reduceDiv, Nat.reduceAdd, beq_self_eq_true, uq0, Bool.or_false, ↓reduceIte, Nat.reduceEqDiff, uq1, uq2]
          simp -dsimp -implicitDefEqProofs only [go_sem, ↓reduceIte, gj, lj, gc]
          ((repeat' (with_reducible refine And.intro ?_ ?_)); all_goals try (first | omega | (refine ⟨?_, ?_⟩ <;> omega) | (exact rfl)))
          refine sCallT_one hsame ?_
          simp -dsimp -implicitDefEqProofs only [go_sem, ↓reduceIte, gj, gc, Bool.and_true]
          ((repeat' (with_reducible refine And.intro ?_ ?_)); all_goals try (first | omega | (refine ⟨?_, ?_⟩ <;> omega) | (exact rfl)))
          all_goals first | (simp; done) | trace_state
    · have hcl := hcn os.length (Nat.le_refl _)
      generalize kcnt cuts os k os.length = s at *
      cases hp : decide (s > 0) with
      | true =>
        have hp' := of_decide_eq_true hp
        obtain ⟨rfl, rfl⟩ := hs1 hp'
        simp -dsimp -implicitDefEqProofs only [pick_nil, pick_cons, look_nil, look_cons, dropB_nil, dropB_cons, inD_nil, inD_cons, inE_nil, inE_cons, or_t_l, or_f_l, Nat.reduceBEq, Nat.reduceDiv, Nat.reduceAdd, beq_self_eq_true, uq0, Bool.or_false, ↓reduceIte, Nat.reduceEqDiff, uq1, uq2]
        simp -dsimp -implicitDefEqProofs only [go_sem, ↓reduceIte, nlt_len, hp]
        ((repeat' (with_reducible refine And.intro ?_ ?_)); all_goals try (first | omega | (refine ⟨?_, ?_⟩ <;> omega) | (exact rfl)))
        refine .inr ⟨by omega, hE K, by omega, ?_⟩
        have e4 := show (C ++ [s]).map eI = C.map eI ++ [eI s] by simp
        rw [← e2, ← e4]
        refine sCallS_one hnx (by simp [noLabs, labs, labsL, isClo]) ?_
        cases o with
        | some k2 =>
          simp -dsimp -implicitDefEqProofs only [go_sem, ↓reduceIte, keyV_some, Option.isSome_some, e3, e2]
          ((repeat' (with_reducible refine And.intro ?_ ?_)); all_goals try (first | omega | (refine ⟨?_, ?_⟩ <;> omega) | (exact rfl)))
          all_goals first | (simp; done) | (simp; omega) | trace_state
        | none =>
          simp -dsimp -implicitDefEqProofs only [go_sem, ↓reduceIte, keyV_none, Option.isSome_none, e3, e2]
          ((repeat' (with_reducible refine And.intro ?_ ?_)); all_goals try (first | omega | (refine ⟨?_, ?_⟩ <;> omega) | (exact rfl)))
          all_goals first | (simp; done) | (simp; omega) | trace_state
      | false =>
        have hp' := of_decide_eq_false hp
        obtain ⟨rfl, rfl⟩ := hs2 hp'
        simp -dsimp -implicitDefEqProofs only [pick_nil, pick_cons, look_nil, look_cons, dropB_nil, dropB_cons, inD_nil, inD_cons, inE_nil, inE_cons, or_t_l, or_f_l, Nat.reduceBEq, Nat.reduceDiv, Nat.reduceAdd, beq_self_eq_true, uq0, Bool.or_false, ↓reduceIte, Nat.reduceEqDiff, uq1, uq2]
        simp -dsimp -implicitDefEqProofs only [go_sem, ↓reduceIte, nlt_len, hp]
        ((repeat' (with_reducible refine And.intro ?_ ?_)); all_goals try (first | omega | (refine ⟨?_, ?_⟩ <;> omega) | (exact rfl)))
        refine sCallS_one hnx (by simp [noLabs, labs, labsL, isClo]) ?_
        cases o with
        | some k2 =>
          simp -dsimp -implicitDefEqProofs only [go_sem, ↓reduceIte, keyV_some, Option.isSome_some]
          ((repeat' (with_reducible refine And.intro ?_ ?_)); all_goals try (first | omega | (refine ⟨?_, ?_⟩ <;> omega) | (exact rfl)))
          all_goals first | (simp; done) | (simp; omega) | trace_state
        | none =>
          simp -dsimp -implicitDefEqProofs only [go_sem, ↓reduceIte, keyV_none, Option.isSome_none]
          ((repeat' (with_reducible refine And.intro ?_ ?_)); all_goals try (first | omega | (refine ⟨?_, ?_⟩ <;> omega) | (exact rfl)))
          all_goals first | (simp; done) | (simp; omega) | trace_state
  · obtain ⟨e4, e5⟩ := oKs_end m cuts os
    have hCl : (oCs m cuts os (allK m).length).length = (oKs m cuts os (allK m).length).length := by unfold oCs; rw [List.length_map]
    rw [e4, e5] at *
    have hn : (allK m)[(allK m).length]? = none := by simp
    rw [hn]
    generalize ordK m cuts os os.length = K at *
    generalize ordC m cuts os os.length = C at *
    simp -dsimp -implicitDefEqProofs only [pick_nil, pick_cons, look_nil, look_cons, dropB_nil, dropB_cons, inD_nil, inD_cons, inE_nil, inE_cons, or_t_l, or_f_l, Nat.reduceBEq, Nat.reduceDiv, Nat.reduceAdd, beq_self_eq_true, uq0, Bool.or_false, ↓reduceIte, Nat.reduceEqDiff, uq1, uq2]
    simp -dsimp -implicitDefEqProofs only [go_sem, ↓reduceIte, keyV_none, Option.isSome_none]
    ((repeat' (with_reducible refine And.intro ?_ ?_)); all_goals try (first | omega | (refine ⟨?_, ?_⟩ <;> omega) | (exact rfl)))
    all_goals first | (simp; done) | (simp; omega) | trace_state
end Go.Vc


set_option linter.unusedVariables false
set_option linter.unusedSimpArgs false
set_option linter.unnecessarySimpa false
namespace Go.Vc
open Go.Proofs
set_option maxRecDepth 100000
set_option maxHeartbeats 8000000
theorem map_ins {α β : Type} (f : α → β) (xs : List α) (x : α) (p : Nat) : (xs.map f).take p ++ f x :: (xs.map f).drop p = (xs.take p ++ x :: xs.drop p).map f := by simp
theorem ordK_len {m : MkM} (hm : isMk m = true) (cuts : List (List Int)) (os : List ItM) (n : Nat) : (ordK m cuts os n).length ≤ 16777216 := by
  unfold ordK
  refine Nat.le_trans (List.length_filter_le ..) (allK_len hm)
theorem ordK_mem {m : MkM} (hm : 0 ≤ m.chambers) {cuts : List (List Int)} {os : List ItM} {n : Nat} {k : List Int} (h : k ∈ ordK m cuts os n) : (k.length : Int) = m.chambers := (allK_ok hm (List.mem_filter.1 h).1).len
theorem half_in {i j : Nat} (h : i < j) : i ≤ (i + j) / 2 ∧ (i + j) / 2 < j := by omega
theorem half_u64 {i j : Nat} (h : i + j ≤ 1000000000) : (IntKind.u64.wrap ((i : Int) + (j : Int))).fdiv (2 ^ min 1 64) = (((i + j) / 2 : Nat) : Int) := by
  rw [IntKind.wrap_u64]
  have e : ((i : Int) + (j : Int)) % 18446744073709551616 = ((i + j : Nat) : Int) := by omega
  rw [e]
  show ((i + j : Nat) : Int).fdiv 2 = _
  rw [Int.fdiv_eq_ediv_of_nonneg _ (by omega)]
  omega
def bsfB (K : List (List Int)) (k : List Int) (p : Nat) : Bool := match K[p]? with | some z => cmpL z k == 0 | none => false
theorem bsfB_some {K : List (List Int)} {k z : List Int} {p : Nat} (h : K[p]? = some z) : bsfB K k p = (cmpL z k == 0) := by unfold bsfB; rw [h]
theorem bsfB_none {K : List (List Int)} {k : List Int} {p : Nat} (h : K.length ≤ p) : bsfB K k p = false := by unfold bsfB; rw [List.getElem?_eq_none h]
theorem c_bsf (K : List (List Int)) (k : List Int) (p : Nat) (hKl : K.length ≤ 16777216) (hKm : ∀ x ∈ K, x.length ≤ 1000000) (hk : k.length ≤ 1000000) (hple : p ≤ K.length) (hlow : ∀ h (hh : h < K.length), decide (cmpL K[h] k < 0) = decide (h < p)) :
    Fn Tryz.prog 44 [eIss K, eIs k, .clo 45 []] true (· = .tup [eI p, eB (bsfB K k p)]) := by
  refine Fn.of_vcN 49 [.tmp 6, .tmp 7] Tryz.func44 rfl rfl rfl rfl rfl (of_decide_eq_true rfl) ?_
  have hcmp := fun (j : Nat) (hj : j < K.length) => c_compareKeys K[j] k (hKm _ (List.getElem_mem hj)) hk
  simp -dsimp -implicitDefEqProofs only [go_sem, ↓reduceIte]
  refine Later.lp [0, 1, 2, 8] [30] [] (fun x : Nat × Nat => x.1 ≤ p ∧ p ≤ x.2 ∧ x.2 ≤ K.length) (fun x => [(10, eI x.2), (9, eI x.1)]) (fun x => []) (fun x => x.2 - x.1) (0, K.length) ⟨Nat.zero_le _, hple, Nat.le_refl _⟩ ?_ rfl (fun x hI => ?_)
  · simp -dsimp -implicitDefEqProofs only [go_sem, ↓reduceIte]
    all_goals first | exact rfl | trace_state
  · obtain ⟨lo, up⟩ := x
    obtain ⟨b1, b2, b3⟩ := hI
    dsimp only at b1 b2 b3 ⊢
    by_cases hlt : lo < up
    · have hd : decide ((lo : Int) < (up : Int)) = true := decide_eq_true (by omega)
      obtain ⟨g1, g2⟩ := half_in hlt
      have hw := half_u64 (i := lo) (j := up) (by omega)
      generalize (lo + up) / 2 = q at *
      have hqK : q < K.length := by omega
      have gq := get_some hqK
      have hcq := hcmp q hqK
      have hlq := hlow q hqK
      generalize K[q] = z at *
      generalize cmpL z k = cz at *
      simp -dsimp -implicitDefEqProofs only [pick_nil, pick_cons, look_nil, look_cons, dropB_nil, dropB_cons, inD_nil, inD_cons, inE_nil, inE_cons, or_t_l, or_f_l, Nat.reduceBEq, Nat.reduceDiv, Nat.reduceAdd, beq_self_eq_true, uq0, Bool.or_false, ↓reduceIte, Nat.reduceEqDiff, uq1, uq2]
      simp -dsimp -implicitDefEqProofs only [go_sem, ↓reduceIte, hd, hw, gq]
      ((repeat' (with_reducible refine And.intro ?_ ?_)); all_goals try (first | omega | (refine ⟨?_, ?_⟩ <;> omega) | (exact rfl)))
      refine sCallT_one hcq ?_
      by_cases hz : q < p
      · rw [decide_eq_true hz] at hlq
        simp -dsimp -implicitDefEqProofs only [go_sem, ↓reduceIte, hlq]
        ((repeat' (with_reducible refine And.intro ?_ ?_)); all_goals try (first | omega | (refine ⟨?_, ?_⟩ <;> omega) | (exact rfl)))
        all_goals first | (refine ⟨(q + 1, up), ⟨by dsimp only; omega, by dsimp only; omega, by dsimp only; omega⟩, by dsimp only; omega, ?_⟩; dsimp only; simp -dsimp -implicitDefEqProofs only [go_sem, ↓reduceIte]; ((repeat' (with_reducible refine And.intro ?_ ?_)); all_goals try (first | omega | (refine ⟨?_, ?_⟩ <;> omega) | (exact rfl))); done) | trace_state
      · rw [decide_eq_false hz] at hlq
        simp -dsimp -implicitDefEqProofs only [go_sem, ↓reduceIte, hlq]
        ((repeat' (with_reducible refine And.intro ?_ ?_)); all_goals try (first | omega | (refine ⟨?_, ?_⟩ <;> omega) | (exact rfl)))
        all_goals first | (refine ⟨(lo, q), ⟨by dsimp only; omega, by dsimp only; omega, by dsimp only; omega⟩, by dsimp only; omega, ?_⟩; dsimp only; simp -dsimp -implicitDefEqProofs only [go_sem, ↓reduceIte]; ((repeat' (with_reducible refine And.intro ?_ ?_)); all_goals try (first | omega | (refine ⟨?_, ?_⟩ <;> omega) | (exact rfl))); done) | trace_state
    · have hd : decide ((lo : Int) < (up : Int)) = false := decide_eq_false (by omega)
      have e1 : lo = p := by omega
      subst e1
      by_cases hl : lo < K.length
      · have hcq := hcmp lo hl
        have gq := get_some hl
        have hd2 : decide ((lo : Int) < (K.length : Int)) = true := decide_eq_true (by omega)
        rw [bsfB_some gq]
        generalize K[lo] = z at *
        generalize cmpL z k = cz at *
        simp -dsimp -implicitDefEqProofs only [pick_nil, pick_cons, look_nil, look_cons, dropB_nil, dropB_cons, inD_nil, inD_cons, inE_nil, inE_cons, or_t_l, or_f_l, Nat.reduceBEq, Nat.reduceDiv, Nat.reduceAdd, beq_self_eq_true, uq0, Bool.or_false, ↓reduceIte, Nat.reduceEqDiff, uq1, uq2]
        simp -dsimp -implicitDefEqProofs only [go_sem, ↓reduceIte, hd, hd2, gq]
        ((repeat' (with_reducible refine And.intro ?_ ?_)); all_goals try (first | omega | (refine ⟨?_, ?_⟩ <;> omega) | (exact rfl)))
        refine sCallT_one hcq ?_
        simp -dsimp -implicitDefEqProofs only [go_sem, ↓reduceIte]
        ((repeat' (with_reducible refine And.intro ?_ ?_)); all_goals try (first | omega | (refine ⟨?_, ?_⟩ <;> omega) | (exact rfl)))
        all_goals first | (simp; done) | trace_state
      · have hd2 : decide ((lo : Int) < (K.length : Int)) = false := decide_eq_false (by omega)
        rw [bsfB_none (by omega)]
        simp -dsimp -implicitDefEqProofs only [pick_nil, pick_cons, look_nil, look_cons, dropB_nil, dropB_cons, inD_nil, inD_cons, inE_nil, inE_cons, or_t_l, or_f_l, Nat.reduceBEq, Nat.reduceDiv, Nat.reduceAdd, beq_self_eq_true, uq0, Bool.or_false, ↓reduceIte, Nat.reduceEqDiff, uq1, uq2]
        simp -dsimp -implicitDefEqProofs only [go_sem, ↓reduceIte, hd, hd2]
        ((repeat' (with_reducible refine And.intro ?_ ?_)); all_goals try (first | omega | (refine ⟨?_, ?_⟩ <;> omega) | (exact rfl)))
        all_goals first | (simp; done) | trace_state
theorem c_iOrderKeys (m : MkM) (t cuts : List (List Int)) (os : List ItM) (h : t.length ≤ 1048576) (h2 : ∀ x ∈ t, x.length ≤ 1048576) (h3 : cuts.length ≤ 1048576) (h4 : ∀ x ∈ cuts, x.length ≤ 1048576) (h5 : os.length ≤ 1048576) : Fn Tryz.prog 12 [eSy m t, eIss cuts, eIts os] true (· = keysR m t cuts os) := by
  refine Fn.of_vcN 71 [.tmp 6, .tmp 7, .tmp 8] Tryz.func12 rfl rfl rfl rfl rfl (of_decide_eq_true rfl) ?_
  have hq := c_designOrderCode m t cuts os h h2 h3 h4 h5
  unfold keysR
  rcases hb : (isDes m t cuts && isOrd t os) with _ | _
  · have hne : stockCode m t cuts os ≠ 0 := by
      unfold stockCode
      cases h6 : isDes m t cuts <;> cases h7 : isOrd t os <;> simp_all
    rw [if_neg hne]
    have hne' : (stockCode m t cuts os != 0) = true := by simp [hne]
    generalize stockCode m t cuts os = c at *
    simp -dsimp -implicitDefEqProofs only [go_sem, ↓reduceIte]
    refine sCallT_one hq ?_
    simp -dsimp -implicitDefEqProofs only [go_sem, ↓reduceIte, hne']
    ((repeat' (with_reducible refine And.intro ?_ ?_)); all_goals try (first | omega | (refine ⟨?_, ?_⟩ <;> omega) | (exact rfl)))
    all_goals trace_state
  obtain ⟨hd, ho⟩ := Bool.and_eq_true_iff.1 hb
  have h0 : stockCode m t cuts os = 0 := by rw [stockCode, if_pos hd, if_pos ho]
  rw [if_pos h0]
  rw [h0] at hq
  obtain ⟨hs, hc⟩ := isDes_out hd
  have hmk := isSy_mk hs
  have ⟨⟨n1, n2⟩, n3, n4⟩ := isMk_num hmk
  obtain ⟨k1, k2, k3, k4, k5⟩ := isSy_num hs
  obtain ⟨c1, c2⟩ := isCutsOf_out hc
  obtain ⟨o1, o2⟩ := isOrd_out ho
  have hcop : ∀ i (hi : i < os.length), 1 ≤ os[i].copies ∧ os[i].copies ≤ 50 := fun i hi => ⟨(o2 i hi).2.2.1, (o2 i hi).2.2.2⟩
  have hKm := fun n (k : List Int) (hk : k ∈ ordK m cuts os n) => ordK_mem (m := m) (by omega) hk
  have hKl := fun n => ordK_len hmk cuts os n
  have hCin : ∀ n, n ≤ os.length → ∀ x ∈ ordC m cuts os n, 0 ≤ x ∧ x ≤ 1000 := by
    intro n hn x hx
    obtain ⟨k, _, rfl⟩ := List.mem_map.1 hx
    have := kcnt_in (cuts := cuts) (k := k) hcop n hn
    omega
  simp -dsimp -implicitDefEqProofs only [go_sem, ↓reduceIte]
  refine sCallT_one hq ?_
  simp -dsimp -implicitDefEqProofs only [go_sem, ↓reduceIte]
  ((repeat' (with_reducible refine And.intro ?_ ?_)); all_goals try (first | omega | (refine ⟨?_, ?_⟩ <;> omega) | (exact rfl)))
  refine Later.upP [1, 25, 26] [13, 41, 53, 54, 55, 58, 59] [23, 24] os.length (fun _ => True) (fun i => [(27, eI i), (11, .ref 24 0 0 (ordC m cuts os i).length), (10, .ref 23 0 0 (ordK m cuts os i).length)]) (fun i => [(24, .row 0 ⟨1, false⟩ true ((ordC m cuts os i).map eI)), (23, .row 0 ⟨1, false⟩ true ((ordK m cuts os i).map eIs))]) trivial (.here ?_) rfl (fun i hi _ => ?_) (fun _ => ?_)
  · rw [ordK_zero, ordC_zero]
    simp -dsimp -implicitDefEqProofs only [go_sem, ↓reduceIte, List.isEmpty_nil, List.map_nil, List.length_nil]
    ((repeat' (with_reducible refine And.intro ?_ ?_)); all_goals try (first | omega | (refine ⟨?_, ?_⟩ <;> omega) | (exact rfl)))
    all_goals trace_state
  · have gi := get_some hi
    have li := lt_len hi
    have oi := o2 i hi
    have hoth := @ord_other m cuts os i hi
    have hstep := @ord_step m cuts os i (by omega) hcop hi
    have hKm1 := hKm i
    have hKl1 := hKl i
    have hC1 := hCin i (by omega)
    generalize os[i] = x at *
    obtain ⟨xk, xi, xc⟩ := x
    simp only at oi hoth hstep
    generalize ordK m cuts os i = K at *
    generalize ordC m cuts os i = C at *
    generalize ordK m cuts os (i + 1) = K' at *
    generalize ordC m cuts os (i + 1) = C' at *
    simp -dsimp -implicitDefEqProofs only [pick_nil, pick_cons, look_nil, look_cons, dropB_nil, dropB_cons, inD_nil, inD_cons, inE_nil, inE_cons, or_t_l, or_f_l, Nat.reduceBEq, Nat.reduceDiv, Nat.reduceAdd, beq_self_eq_true, uq0, Bool.or_false, ↓reduceIte, Nat.reduceEqDiff, uq1, uq2]
    refine Later.seqV rfl ?_
    simp -dsimp -implicitDefEqProofs only [go_sem, ↓reduceIte, li]
    refine Later.seqV rfl ?_
    simp -dsimp -implicitDefEqProofs only [go_sem, ↓reduceIte, li]
    refine Later.seqL ?_
    refine Later.blockL ?_
    refine Later.seqV rfl ?_
    simp -dsimp -implicitDefEqProofs only [go_sem, ↓reduceIte, gi]
    ((repeat' (with_reducible refine And.intro ?_ ?_)); all_goals try (first | omega | (refine ⟨?_, ?_⟩ <;> omega) | (exact rfl)))
    refine Later.seqV rfl ?_
    cases xk with
    | false =>
      obtain ⟨rfl, rfl⟩ := hoth rfl
      simp -dsimp -implicitDefEqProofs only [go_sem, ↓reduceIte]
      refine Later.vc rfl ?_
      simp -dsimp -implicitDefEqProofs only [go_sem, ↓reduceIte]
      ((repeat' (with_reducible refine And.intro ?_ ?_)); all_goals try (first | omega | (refine ⟨?_, ?_⟩ <;> omega) | (exact rfl)))
      all_goals first | (refine .here ?_; simp -dsimp -implicitDefEqProofs only [go_sem, ↓reduceIte]; ((repeat' (with_reducible refine And.intro ?_ ?_)); all_goals try (first | omega | (refine ⟨?_, ?_⟩ <;> omega) | (exact rfl))); done) | trace_state
    | true =>
      simp only [if_true] at oi
      have hci : xi.toNat < cuts.length := by omega
      have gc := get_some hci
      have hky := c2 _ (List.getElem_mem hci)
      have hx1 := (key1_out hky).1
      have eg : cuts.getD xi.toNat [] = cuts[xi.toNat] := by rw [List.getD_eq_getElem?_getD, gc]; rfl
      rw [eg] at hstep
      obtain ⟨p, hp⟩ := hstep rfl (KeyOk.of_fault (beq_iff_eq.1 hky))
      generalize cuts[xi.toNat] = k at *
      clear hoth hstep eg
      obtain ⟨hple, hlow, hfnd, hnew, hCl⟩ := hp
      have hclo := c_CloneI k (by omega)
      have hbs := c_bsf K k p hKl1 (fun x hx => by have := hKm1 x hx; omega) (by omega) hple hlow
      simp -dsimp -implicitDefEqProofs only [go_sem, ↓reduceIte]
      refine Later.seqV rfl ?_
      simp -dsimp -implicitDefEqProofs only [go_sem, ↓reduceIte, gc]
      ((repeat' (with_reducible refine And.intro ?_ ?_)); all_goals try (first | omega | (refine ⟨?_, ?_⟩ <;> omega) | (exact rfl)))
      refine sCallT_clo3 hbs ?_ ?_ ?_
      · simp -dsimp -implicitDefEqProofs only [go_sem, ↓reduceIte]
        ((repeat' (with_reducible refine And.intro ?_ ?_)); all_goals try (first | omega | (refine ⟨?_, ?_⟩ <;> omega) | (exact rfl)))
        all_goals first | (simp; done) | trace_state
      · simp -dsimp -implicitDefEqProofs only [go_sem, ↓reduceIte]
        all_goals first | rfl | trace_state
      simp -dsimp -implicitDefEqProofs only [go_sem, ↓reduceIte]
      ((repeat' (with_reducible refine And.intro ?_ ?_)); all_goals try (first | omega | (refine ⟨?_, ?_⟩ <;> omega) | (exact rfl)))
      have hk0 : 0 < k.length := by omega
      have hcase : (∃ hl : p < K.length, bsfB K k p = true) ∨ bsfB K k p = false := by
        by_cases hl : p < K.length
        · cases hz : bsfB K k p with
          | true => exact .inl ⟨hl, rfl⟩
          | false => exact .inr rfl
        · exact .inr (bsfB_none (by omega))
      rcases hcase with ⟨hl, hz⟩ | hz
      · obtain ⟨rfl, hC'⟩ := hfnd hl (by rw [← bsfB_some (get_some hl)]; exact hz)
        have hClo : p < C.length := by omega
        have gC : C[p]? = some (C.getD p 0) := by rw [List.getD_eq_getElem?_getD, List.getElem?_eq_getElem hClo]; rfl
        have hyb := hC1 (C.getD p 0) (List.mem_of_getElem? gC)
        have eC : (C.map eI).set p (eI (C.getD p 0 + xc)) = C'.map eI := by rw [hC', List.map_set]
        have eL : C'.length = C.length := by rw [hC', List.length_set]
        generalize C.getD p 0 = y at *
        refine Later.seqV rfl ?_
        simp -dsimp -implicitDefEqProofs only [go_sem, ↓reduceIte, hz]
        refine Later.solo 7 mixed rfl ?_
        simp -dsimp -implicitDefEqProofs only [go_sem, ↓reduceIte, gC]
        ((repeat' (with_reducible refine And.intro ?_ ?_)); all_goals try (first | omega | (refine ⟨?_, ?_⟩ <;> omega) | (exact rfl)))
        rw [eC]
        refine Later.vc rfl ?_
        simp -dsimp -implicitDefEqProofs only [go_sem, ↓reduceIte, eL]
        ((repeat' (with_reducible refine And.intro ?_ ?_)); all_goals try (first | omega | (refine ⟨?_, ?_⟩ <;> omega) | (exact rfl)))
        refine .here ?_
        simp -dsimp -implicitDefEqProofs only [go_sem, ↓reduceIte, eL]
        ((repeat' (with_reducible refine And.intro ?_ ?_)); all_goals try (first | omega | (refine ⟨?_, ?_⟩ <;> omega) | (exact rfl)))
        all_goals first | (simp; done) | trace_state
      · obtain ⟨hK', hC'⟩ := hnew (fun h => by rw [← bsfB_some (get_some h)]; exact hz)
        have hlK : p ≤ (K.map eIs).length := by rw [List.length_map]; exact hple
        refine Later.seqL ?_
        refine Later.seqV rfl ?_
        simp -dsimp -implicitDefEqProofs only [go_sem, ↓reduceIte, hz]
        refine Later.condL true rfl (fun _ => ?_) (fun h => by cases h)
        refine Later.seqL ?_
        refine Later.insK 8 rfl rfl rfl ?_
        simp -dsimp -implicitDefEqProofs only [go_sem, ↓reduceIte, gc]
        ((repeat' (with_reducible refine And.intro ?_ ?_)); all_goals try (first | omega | (refine ⟨?_, ?_⟩ <;> omega) | (exact rfl)))
        refine sCallT_one hclo ?_
        simp -dsimp -implicitDefEqProofs only [go_sem, ↓reduceIte]
        ((repeat' (with_reducible refine And.intro ?_ ?_)); all_goals try (first | omega | (refine ⟨?_, ?_⟩ <;> omega) | (exact rfl)))
        refine hkN.known 53 54000 0 k.length ⟨1, false⟩ _ rfl (by decide) rfl (by simp) hk0 (by decide) fun u => ?_
        simp -dsimp -implicitDefEqProofs only [go_sem, ↓reduceIte, List.take_succ_cons, List.take_zero]
        ((repeat' (with_reducible refine And.intro ?_ ?_)); all_goals try (first | omega | (refine ⟨?_, ?_⟩ <;> omega) | (exact rfl)))
        have hlenK : p + 1 ≤ K.length + 1 := by omega
        refine insC.go true (l := 23) (ver := 0) (i := p) (xs := K.map eIs) rfl rfl rfl rfl insR_runs (by rw [List.length_map]; rfl) rfl rfl rfl rfl (by rw [List.length_map]; omega) (by rw [List.length_map]; omega) (by decide) (.inl ⟨rfl, rfl⟩) ?_
        obtain ⟨W, hW⟩ : ∃ W, (K.map eIs).take p ++ AV.val u :: (K.map eIs).drop p = W := ⟨_, rfl⟩
        have gW : W[p]? = some (.val u) := by rw [← hW, ins_get (K.map eIs) (AV.val u) p p hlK, if_neg (by omega), if_pos rfl]
        have lW : W.length = K.length + 1 := by rw [← hW]; simp; omega
        have sW : W.set p (eIs k) = K'.map eIs := by
          rw [← hW, hK', ← map_ins eIs K k p, set_at (by rw [List.length_take, List.length_map]; omega)]
        rw [hW, List.length_map]
        simp -dsimp -implicitDefEqProofs only [go_sem, ↓reduceIte, List.drop_succ_cons, List.drop_zero]
        ((repeat' (with_reducible refine And.intro ?_ ?_)); all_goals try (first | omega | (refine ⟨?_, ?_⟩ <;> omega) | (exact rfl)))
        have hlC : p ≤ C.length := by omega
        obtain ⟨D, hD⟩ : ∃ D, C.take p ++ (0 : Int) :: C.drop p = D := ⟨_, rfl⟩
        have gD : D[p]? = some 0 := by rw [← hD, ins_get C 0 p p hlC, if_neg (by omega), if_pos rfl]
        have eD : (C.map eI).take p ++ eI 0 :: (C.map eI).drop p = D.map eI := by rw [← hD]; exact map_ins eI C 0 p
        have lD : D.length = C.length + 1 := by rw [← hD]; simp; omega
        rw [hD] at hC'
        have eC : (D.map eI).set p (eI (0 + xc)) = C'.map eI := by rw [hC', List.map_set]
        have eL : C'.length = C.length + 1 := by rw [hC', List.length_set, lD]
        have eK : K'.length = K.length + 1 := by rw [hK']; simp; omega
        have hy0 : (0 : Int) + xc ≤ 1000 := by omega
        refine Later.ins 2 rfl rfl rfl ?_
        simp -dsimp -implicitDefEqProofs only [go_sem, ↓reduceIte, List.take_succ_cons, List.take_zero]
        ((repeat' (with_reducible refine And.intro ?_ ?_)); all_goals try (first | omega | (refine ⟨?_, ?_⟩ <;> omega) | (exact rfl)))
        refine insC.go true (l := 24) (ver := 0) (i := p) (xs := C.map eI) rfl rfl rfl rfl insI_runs (by rw [List.length_map]; rfl) rfl rfl rfl rfl (by rw [List.length_map]; omega) (by rw [List.length_map]; omega) (by decide) (.inl ⟨rfl, rfl⟩) ?_
        rw [eD, List.length_map]
        simp -dsimp -implicitDefEqProofs only [go_sem, ↓reduceIte, List.drop_succ_cons, List.drop_zero]
        ((repeat' (with_reducible refine And.intro ?_ ?_)); all_goals try (first | omega | (refine ⟨?_, ?_⟩ <;> omega) | (exact rfl)))
        refine Later.solo 7 mixed rfl ?_
        simp -dsimp -implicitDefEqProofs only [go_sem, ↓reduceIte, gD, lD]
        ((repeat' (with_reducible refine And.intro ?_ ?_)); all_goals try (first | omega | (refine ⟨?_, ?_⟩ <;> omega) | (exact rfl)))
        rw [eC]
        refine Later.vc rfl ?_
        simp -dsimp -implicitDefEqProofs only [go_sem, ↓reduceIte, eL, eK]
        ((repeat' (with_reducible refine And.intro ?_ ?_)); all_goals try (first | omega | (refine ⟨?_, ?_⟩ <;> omega) | (exact rfl)))
        refine RefP.back 23 1 p 54000 0 _ _ _ u (by decide) rfl gW rfl (.here ?_)
        rw [show W.set p (.arr ⟨1, false⟩ (k.map eI)) = K'.map eIs from sW]
        simp -dsimp -implicitDefEqProofs only [go_sem, ↓reduceIte, eL, eK]
        ((repeat' (with_reducible refine And.intro ?_ ?_)); all_goals try (first | omega | (refine ⟨?_, ?_⟩ <;> omega) | (exact rfl)))
        all_goals first | (simp; done) | trace_state
  · refine Later.vc rfl ?_
    generalize ordK m cuts os os.length = K at *
    generalize ordC m cuts os os.length = C at *
    simp -dsimp -implicitDefEqProofs only [pick_nil, pick_cons, look_nil, look_cons, dropB_nil, dropB_cons, inD_nil, inD_cons, inE_nil, inE_cons, or_t_l, or_f_l, Nat.reduceBEq, Nat.reduceDiv, Nat.reduceAdd, beq_self_eq_true, uq0, Bool.or_false, ↓reduceIte, Nat.reduceEqDiff, uq1, uq2]
    simp -dsimp -implicitDefEqProofs only [go_sem, ↓reduceIte, nlt_len]
    ((repeat' (with_reducible refine And.intro ?_ ?_)); all_goals try (first | omega | (refine ⟨?_, ?_⟩ <;> omega) | (exact rfl)))
    all_goals first | (simp; done) | (simp; omega) | trace_state
end Go.Vc


set_option linter.unusedVariables false
set_option linter.unusedSimpArgs false
set_option linter.unnecessarySimpa false
namespace Go.Vc
open Go.Proofs
set_option maxRecDepth 100000
theorem c_toItem (t : ItM) : Fn Tryz.prog 42 [eIt t] true (· = eIt t) := by
  refine Fn.of_vcN 14 [.cell 2 64] Tryz.func42 rfl rfl rfl rfl rfl (of_decide_eq_true rfl) ?_
  simp -dsimp -implicitDefEqProofs only [go_sem, ↓reduceIte]
  repeat' (with_reducible refine And.intro ?_ ?_)
  all_goals first | omega | (simp; done)
theorem c_eqItem (t u : ItM) : Fn Tryz.prog 50 [eIt t, eIt u] true (· = eB (decide (t = u))) := by
  refine Fn.of_vcN 20 [.tmp 4] Tryz.func50 rfl rfl rfl rfl rfl (of_decide_eq_true rfl) ?_
  simp -dsimp -implicitDefEqProofs only [go_sem, ↓reduceIte]
  repeat' (refine Br.intro (fun _ => ?_) (fun _ => ?_) <;> try simp -dsimp -implicitDefEqProofs only [go_sem, ↓reduceIte, *])
  all_goals (cases t; cases u; simp_all)
theorem c_szItemS (xs : List ItM) (n : Int) (h : xs.length ≤ 9223372036854775807) (hn : 0 ≤ n ∧ n ≤ 1048576) : Fn Tryz.prog 7 [eIts xs, eI n] true (· = eI (if n < xs.length then -1 else n - xs.length)) := by
  refine Fn.of_vcN 12 [.tmp 4] Tryz.func7 rfl rfl rfl rfl rfl (of_decide_eq_true rfl) ?_
  simp -dsimp -implicitDefEqProofs only [go_sem, ↓reduceIte]
  repeat' first
    | (refine Br.intro (fun _ => ?_) (fun _ => ?_) <;> try simp -dsimp -implicitDefEqProofs only [go_sem, ↓reduceIte, *])
    | (with_reducible refine And.intro ?_ ?_)
  all_goals first
    | (refine ⟨?_, ?_⟩ <;> omega)
    | (rw [if_pos]; simp_all <;> omega)
    | (rw [if_neg]; simp_all <;> omega)
theorem c_toItemS (xs : List ItM) (h : xs.length ≤ 1048576) : Fn Tryz.prog 11 [eIts xs] true (· = eIts xs) := by
  refine Fn.of_vcN 23 [.tmp 2] Tryz.func11 rfl rfl rfl rfl rfl (of_decide_eq_true rfl) ?_
  simp -dsimp -implicitDefEqProofs only [go_sem, ↓reduceIte]
  repeat' (with_reducible refine And.intro ?_ ?_)
  all_goals try omega
  refine Later.up [0, 3] [10, 20] [7] xs.length (fun _ => True) (fun i => [(4, eI i)]) (fun i => [(7, .row 0 ⟨3, true⟩ true (fill eIt (.agg [eB false, eI 0, eI 0]) xs i))]) trivial ?_ rfl (fun i hi _ => ?_) (fun _ => ?_)
  · simp -dsimp -implicitDefEqProofs only [go_sem, ↓reduceIte, fill_zero]
  · simp -dsimp -implicitDefEqProofs only [pick_nil, pick_cons, look_nil, look_cons, dropB_nil, dropB_cons, inD_nil, inD_cons, inE_nil, inE_cons, or_t_l, or_f_l, Nat.reduceBEq, Nat.reduceDiv, Nat.reduceAdd, beq_self_eq_true, uq0, Bool.or_false, ↓reduceIte, Nat.reduceEqDiff, uq1, uq2]
    simp -dsimp -implicitDefEqProofs only [go_sem, ↓reduceIte, lt_len hi, get_some hi, fill_get _ _ _ _ hi, fill_set _ _ _ _ hi]
    repeat' first
      | (with_reducible refine And.intro ?_ ?_)
      | (refine sCallT_one (c_toItem _) ?_; try simp -dsimp -implicitDefEqProofs only [go_sem, ↓reduceIte, *, fill_get _ _ _ _ hi, fill_set _ _ _ _ hi])
    all_goals first
      | omega
      | (refine ⟨?_, ?_⟩ <;> omega)
      | (simp; done)
  · simp -dsimp -implicitDefEqProofs only [pick_nil, pick_cons, look_nil, look_cons, dropB_nil, dropB_cons, inD_nil, inD_cons, inE_nil, inE_cons, or_t_l, or_f_l, Nat.reduceBEq, Nat.reduceDiv, Nat.reduceAdd, beq_self_eq_true, uq0, Bool.or_false, ↓reduceIte, Nat.reduceEqDiff, uq1, uq2]
    simp -dsimp -implicitDefEqProofs only [go_sem, ↓reduceIte, nlt_len, fill_all]
    repeat' (with_reducible refine And.intro ?_ ?_)
    all_goals first
      | omega
      | decide
      | (simp; done)
theorem c_eqItemS (xs ys : List ItM) (h : xs.length ≤ 9223372036854775807) : Fn Tryz.prog 16 [eIts xs, eIts ys] true (· = eB (decide (xs = ys))) := by
  refine Fn.of_vcN 27 [.tmp 4] Tryz.func16 rfl rfl rfl rfl rfl (of_decide_eq_true rfl) ?_
  simp -dsimp -implicitDefEqProofs only [go_sem, ↓reduceIte]
  repeat' (refine Br.intro (fun _ => ?_) (fun _ => ?_) <;> try simp -dsimp -implicitDefEqProofs only [go_sem, ↓reduceIte, *])
  · rw [decide_eq_false]; intro e; subst e; simp_all
  have h1 : xs.length = ys.length := by simp_all <;> omega
  refine Later.up [0, 1] [13, 25] [] xs.length (fun i => xs.take i = ys.take i) (fun i => [(5, eI i)]) (fun _ => []) rfl ?_ rfl (fun i hi hI => ?_) (fun hI => ?_)
  · simp -dsimp -implicitDefEqProofs only [go_sem, ↓reduceIte]
  · simp -dsimp -implicitDefEqProofs only [pick_nil, pick_cons, look_nil, look_cons, dropB_nil, dropB_cons, inD_nil, inD_cons, inE_nil, inE_cons, or_t_l, or_f_l, Nat.reduceBEq, Nat.reduceDiv, Nat.reduceAdd, beq_self_eq_true, uq0, Bool.or_false, ↓reduceIte, Nat.reduceEqDiff, uq1, uq2]
    have hy : i < ys.length := by omega
    have no : xs[i] ≠ ys[i] → decide (xs = ys) = false := eq_no hi hy
    have yes : xs[i] = ys[i] → xs.take (i + 1) = ys.take (i + 1) := eq_yes hi hy hI
    simp -dsimp -implicitDefEqProofs only [go_sem, ↓reduceIte, lt_len hi, get_some hi]
    refine Later.draw mixed rfl ?_
    simp -dsimp -implicitDefEqProofs only [go_sem, ↓reduceIte, get_some hi, get_some hy]
    repeat' first
      | (refine Br.intro (fun _ => ?_) (fun _ => ?_) <;> try simp -dsimp -implicitDefEqProofs only [go_sem, ↓reduceIte, *])
      | (with_reducible refine And.intro ?_ ?_)
      | (refine sCallX_one (c_eqItem _ _) ?_; try simp -dsimp -implicitDefEqProofs only [go_sem, ↓reduceIte, *])
    all_goals first
      | omega
      | (refine ⟨?_, ?_⟩ <;> omega)
      | rfl
      | (simp; done)
      | (rw [no]; clear no yes; simp_all; done)
      | (refine yes ?_; clear no yes; simp_all; done)
  · simp -dsimp -implicitDefEqProofs only [pick_nil, pick_cons, look_nil, look_cons, dropB_nil, dropB_cons, inD_nil, inD_cons, inE_nil, inE_cons, or_t_l, or_f_l, Nat.reduceBEq, Nat.reduceDiv, Nat.reduceAdd, beq_self_eq_true, uq0, Bool.or_false, ↓reduceIte, Nat.reduceEqDiff, uq1, uq2]
    simp -dsimp -implicitDefEqProofs only [go_sem, ↓reduceIte, nlt_len]
    have h3 : xs = ys := by rw [← List.take_length (l := xs), hI, h1, List.take_length]
    simp [h3]
def markLItemS (k : Int) (n : Nat) : List ItM := (List.range n).map fun i : Nat => ItM.mk (Int.tmod (k + 3 * (i : Int)) 3 == 0) (k + 3 * (i : Int) + 1) (k + 3 * (i : Int) + 2)
theorem c_markItemS (xs : List ItM) (k : Int) (v : Nat) (dp : Bool) (hk : 0 ≤ k ∧ k ≤ 1000000000000) (h : xs.length ≤ 1000000000000) :
    FnM Tryz.prog 19 [.row v ⟨3, true⟩ dp (xs.map eIt)] [.ref 1000000000 v 0 xs.length, eI k] (fun x io => x = eI (k + 3 * xs.length) ∧ io = [.row v ⟨3, true⟩ dp ((markLItemS k xs.length).map eIt)]) := by
  refine FnM.of_vcN 36 [.tmp 4] Tryz.func19 rfl rfl rfl rfl rfl (of_decide_eq_true rfl) ?_
  simp -dsimp -implicitDefEqProofs only [go_sem, ↓reduceIte]
  refine Later.up [0] [8] [1000000000] xs.length (fun _ => True) (fun i => [(5, eI i), (1, eI (k + 3 * i))]) (fun i => [(1000000000, .row v ⟨3, true⟩ dp (mk1 (fun i : Nat => eIt (ItM.mk (Int.tmod (k + 3 * (i : Int)) 3 == 0) (k + 3 * (i : Int) + 1) (k + 3 * (i : Int) + 2))) (xs.map eIt) i))]) trivial ?_ rfl (fun i hi _ => ?_) (fun _ => ?_)
  · simp -dsimp -implicitDefEqProofs only [go_sem, ↓reduceIte, mk1_zero, Int.mul_zero, Int.add_zero]
  · simp -dsimp -implicitDefEqProofs only [pick_nil, pick_cons, look_nil, look_cons, dropB_nil, dropB_cons, inD_nil, inD_cons, inE_nil, inE_cons, or_t_l, or_f_l, Nat.reduceBEq, Nat.reduceDiv, Nat.reduceAdd, beq_self_eq_true, uq0, Bool.or_false, ↓reduceIte, Nat.reduceEqDiff, uq1, uq2]
    have g0 := mk1_get (fun i : Nat => eIt (ItM.mk (Int.tmod (k + 3 * (i : Int)) 3 == 0) (k + 3 * (i : Int) + 1) (k + 3 * (i : Int) + 2))) (xs.map eIt) i (by simpa using hi)
    have g1 := mk1_set (fun i : Nat => eIt (ItM.mk (Int.tmod (k + 3 * (i : Int)) 3 == 0) (k + 3 * (i : Int) + 1) (k + 3 * (i : Int) + 2))) (xs.map eIt) i (by simpa using hi)
    have g2 := fun x => mk1_set2 (fun i : Nat => eIt (ItM.mk (Int.tmod (k + 3 * (i : Int)) 3 == 0) (k + 3 * (i : Int) + 1) (k + 3 * (i : Int) + 2))) (xs.map eIt) i x (by simpa using hi)
    rw [List.getElem_map] at g0
    simp -dsimp -implicitDefEqProofs only [go_sem, ↓reduceIte, lt_len hi, g0, g2, List.set_set, mk1_len, List.length_set]
    repeat' (with_reducible refine And.intro ?_ ?_)
    all_goals first
      | omega
      | (refine ⟨?_, ?_⟩ <;> omega)
      | (simp; done)
      | (simp; omega)
      | (rw [← g1]; congr 1; simp <;> omega)
  · simp -dsimp -implicitDefEqProofs only [pick_nil, pick_cons, look_nil, look_cons, dropB_nil, dropB_cons, inD_nil, inD_cons, inE_nil, inE_cons, or_t_l, or_f_l, Nat.reduceBEq, Nat.reduceDiv, Nat.reduceAdd, beq_self_eq_true, uq0, Bool.or_false, ↓reduceIte, Nat.reduceEqDiff, uq1, uq2]
    simp -dsimp -implicitDefEqProofs only [go_sem, ↓reduceIte, nlt_len, mk1_all _ _ _ (show (xs.map eIt).length ≤ xs.length by simp)]
    repeat' (with_reducible refine And.intro ?_ ?_)
    all_goals first
      | (simp; done)
      | (simp [markLItemS, List.map_map, Function.comp_def]; done)
end Go.Vc


set_option linter.unusedVariables false
set_option linter.unusedSimpArgs false
set_option linter.unnecessarySimpa false
namespace Go.Vc
open Go.Proofs
set_option maxRecDepth 100000
set_option maxHeartbeats 4000000
theorem sum_len_le (n : Nat) : ∀ xs : List (List Int), (∀ x ∈ xs, x.length ≤ n) → (xs.map List.length).sum ≤ n * xs.length
  | [], _ => by simp
  | x :: xs, h => by
    have h1 := h x (List.mem_cons_self ..)
    have h2 := sum_len_le n xs fun y hy => h y (List.mem_cons_of_mem _ hy)
    simp only [List.map_cons, List.sum_cons, List.length_cons, Nat.mul_add]
    omega
theorem keysR_form {m : MkM} {t cuts : List (List Int)} {os : List ItM} : ∃ (K : List (List Int)) (C : List Int) (c : Int), keysR m t cuts os = .tup [eIss K, eIs C, eI c] ∧ K.length ≤ 16777216 ∧ (∀ x ∈ K, x.length ≤ 8) ∧ (K.map List.length).sum ≤ 1000000000 ∧ C.length ≤ 16777216 := by
  unfold keysR
  split
  · rename_i h
    have hd : isDes m t cuts = true := by
      unfold stockCode at h
      split at h
      · rename_i h1; exact h1
      · cases h
    obtain ⟨hs, hc⟩ := isDes_out hd
    have hmk := isSy_mk hs
    have ⟨⟨n1, n2⟩, n3, n4⟩ := isMk_num hmk
    have hl := ordK_len hmk cuts os os.length
    have hx : ∀ x ∈ ordK m cuts os os.length, x.length ≤ 8 := fun x hx => by
      have := ordK_mem (m := m) (by omega) hx
      omega
    have hsum := sum_len_le 8 _ hx
    exact ⟨_, _, _, rfl, hl, hx, by omega, by rw [ordC, List.length_map]; exact hl⟩
  · exact ⟨[], [], _, rfl, by simp, by simp, by simp, by simp⟩
theorem c_FnExactOrderKeys (m : MkM) (l cuts : List (List Int)) (os : List ItM) (h : l.length ≤ 9223372036854775807) (h2 : ∀ x ∈ l, x.length ≤ 9223372036854775807) (hc : cuts.length ≤ 9223372036854775807) (hc2 : ∀ x ∈ cuts, x.length ≤ 9223372036854775807) (h5 : os.length ≤ 9223372036854775807) :
    Fn Tryz.prog 3 [eSy m l, eIss cuts, eIts os] true (· = eB true) := by
  refine Fn.of_vcN 179 [.tmp 6] Tryz.func3 rfl rfl rfl rfl rfl (of_decide_eq_true rfl) ?_
  simp -dsimp -implicitDefEqProofs only [go_sem, ↓reduceIte]
  refine sCallT_one (c_szSystem m l _ h h2 (by decide)) ?_
  by_cases hs : (1048576 : Int) < l.length + tot l
  · rw [if_pos hs]
    simp -dsimp -implicitDefEqProofs only [go_sem, ↓reduceIte]
    repeat' (refine Br.intro (fun _ => ?_) (fun _ => ?_) <;> try simp -dsimp -implicitDefEqProofs only [go_sem, ↓reduceIte, *])
    all_goals simp_all
  rw [if_neg hs]
  simp -dsimp -implicitDefEqProofs only [go_sem, ↓reduceIte]
  repeat' (refine Br.intro (fun _ => ?_) (fun _ => ?_) <;> try simp -dsimp -implicitDefEqProofs only [go_sem, ↓reduceIte, *])
  have hL : l.length ≤ 1048576 := by omega
  have hT : (l.map List.length).sum ≤ 1048576 := by rw [← tot_eq]; omega
  have h3 : ∀ x ∈ l, x.length ≤ 1048576 := fun x hx => by have := len_tot l x hx; omega
  have h4 : ∀ x ∈ l, x.length ≤ 9223372036854775807 := h2
  refine sCallT_one (c_szInt64SS cuts _ hc hc2 (by omega)) ?_
  by_cases hs1 : (1048576 : Int) - (l.length + tot l) < cuts.length + tot cuts
  · rw [if_pos hs1]
    simp -dsimp -implicitDefEqProofs only [go_sem, ↓reduceIte]
    repeat' (refine Br.intro (fun _ => ?_) (fun _ => ?_) <;> try simp -dsimp -implicitDefEqProofs only [go_sem, ↓reduceIte, *])
    all_goals simp_all
  rw [if_neg hs1]
  simp -dsimp -implicitDefEqProofs only [go_sem, ↓reduceIte]
  repeat' (refine Br.intro (fun _ => ?_) (fun _ => ?_) <;> try simp -dsimp -implicitDefEqProofs only [go_sem, ↓reduceIte, *])
  have hL' : cuts.length ≤ 1048576 := by omega
  have hT' : (cuts.map List.length).sum ≤ 1048576 := by rw [← tot_eq]; omega
  have h3' : ∀ x ∈ cuts, x.length ≤ 1048576 := fun x hx => by have := len_tot cuts x hx; omega
  refine sCallT_one (c_szItemS os _ h5 (by omega)) ?_
  by_cases hs2 : (1048576 : Int) - (l.length + tot l) - (cuts.length + tot cuts) < os.length
  · rw [if_pos hs2]
    simp -dsimp -implicitDefEqProofs only [go_sem, ↓reduceIte]
    repeat' (refine Br.intro (fun _ => ?_) (fun _ => ?_) <;> try simp -dsimp -implicitDefEqProofs only [go_sem, ↓reduceIte, *])
    all_goals simp_all
  rw [if_neg hs2]
  simp -dsimp -implicitDefEqProofs only [go_sem, ↓reduceIte]
  repeat' (refine Br.intro (fun _ => ?_) (fun _ => ?_) <;> try simp -dsimp -implicitDefEqProofs only [go_sem, ↓reduceIte, *])
  have hO : os.length ≤ 1048576 := by omega
  clear hs2 hs1 hs h2
  have cs := c_sOrderKeys m l cuts os hL h3 hL' h3' hO
  have ci := c_iOrderKeys m l cuts os hL h3 hL' h3' hO
  obtain ⟨K, C, c, hr, lK, lx, lS, lC⟩ := keysR_form (m := m) (t := l) (cuts := cuts) (os := os)
  rw [hr] at cs ci
  clear hr
  have lx' : ∀ x ∈ K, x.length ≤ 9223372036854775807 := fun x hx => by have := lx x hx; omega
  have hK1 : (K.map List.length).length ≤ 1000000000 := by rw [List.length_map]; omega
  have m4 := fun v => c_markInt64SS K 1 v (by omega) (by omega) (by omega)
  have q4 := c_heldInt64SS (K.map List.length) 1 (by omega) (by omega) (by omega)
  have hML : (markLL 1 (K.map List.length)).length = K.length := by simp [markLL]
  generalize markLL 1 (K.map List.length) = ML at m4 q4 hML
  have tML : List.take K.length (ML.map eIs) = ML.map eIs := List.take_of_length_le (by rw [List.length_map]; omega)
  generalize hk4 : (K.map List.length).sum = s4 at m4 q4 lS
  generalize hk1 : (l.map List.length).sum = s1 at *
  generalize hk2 : (cuts.map List.length).sum = s2 at *
  have m1 := fun v => c_markSystem m l 1 v (by omega) (by omega) (by omega)
  have m2 := fun v => c_markInt64SS cuts (1 + (s1 : Int)) v (by omega) (by omega) (by omega)
  have m3 := fun v => c_markItemS os (1 + (s1 : Int) + (s2 : Int)) v true (by omega) (by omega)
  rw [hk1] at m1
  rw [hk2] at m2
  refine sCallS_one (Fn.shared (c_toSystem m l hL h3)) (by simp [noLabs, labs, labsL, isClo]) ?_
  simp -dsimp -implicitDefEqProofs only [go_sem, ↓reduceIte]
  refine sCallS_one (Fn.shared (c_toInt64SS cuts hL' h3')) (by simp [noLabs, labs, labsL, isClo]) ?_
  simp -dsimp -implicitDefEqProofs only [go_sem, ↓reduceIte]
  refine sCallS_one (Fn.shared (c_toItemS os hO)) (by simp [noLabs, labs, labsL, isClo]) ?_
  simp -dsimp -implicitDefEqProofs only [go_sem, ↓reduceIte]
  refine sCallS_one cs (by simp [noLabs, labs, labsL, isClo]) ?_
  simp -dsimp -implicitDefEqProofs only [go_sem, ↓reduceIte]
  repeat' first
    | (refine Br.intro (fun _ => ?_) (fun _ => ?_) <;> try simp -dsimp -implicitDefEqProofs only [go_sem, ↓reduceIte, *])
    | (with_reducible refine And.intro ?_ ?_)
    | (refine sCallT_one (c_toSystem m l hL h3) ?_; try simp -dsimp -implicitDefEqProofs only [go_sem, ↓reduceIte, *])
    | (refine sCallT_one (c_eqSystem m m l l h h4) ?_; try simp -dsimp -implicitDefEqProofs only [go_sem, ↓reduceIte, *])
    | (refine sCallT_one (c_toInt64SS cuts hL' h3') ?_; try simp -dsimp -implicitDefEqProofs only [go_sem, ↓reduceIte, *])
    | (refine sCallT_one (c_eqInt64SS cuts cuts hc hc2) ?_; try simp -dsimp -implicitDefEqProofs only [go_sem, ↓reduceIte, *])
    | (refine sCallT_one (c_eqInt64SS K K (by omega) lx') ?_; try simp -dsimp -implicitDefEqProofs only [go_sem, ↓reduceIte, *])
    | (refine sCallT_one (c_toItemS os hO) ?_; try simp -dsimp -implicitDefEqProofs only [go_sem, ↓reduceIte, *])
    | (refine sCallT_one (c_eqItemS os os (by omega)) ?_; try simp -dsimp -implicitDefEqProofs only [go_sem, ↓reduceIte, *])
    | (refine sCallT_one (ci) ?_; try simp -dsimp -implicitDefEqProofs only [go_sem, ↓reduceIte, *])
    | (refine sCallT_one (c_eqInt64S C C (by omega)) ?_; try simp -dsimp -implicitDefEqProofs only [go_sem, ↓reduceIte, *])
    | (refine sCallT_io [51005] ?_; simp -dsimp -implicitDefEqProofs only [go_sem, ↓reduceIte]; refine sCallM_one (m1 0) ?_; try simp -dsimp -implicitDefEqProofs only [go_sem, ↓reduceIte, *])
    | (refine sCallT_io [53000] ?_; simp -dsimp -implicitDefEqProofs only [go_sem, ↓reduceIte]; refine sCallM_one (m2 0) ?_; try simp -dsimp -implicitDefEqProofs only [go_sem, ↓reduceIte, *])
    | (refine sCallT_io [55000] ?_; simp -dsimp -implicitDefEqProofs only [go_sem, ↓reduceIte]; refine sCallM_one (m3 0) ?_; try simp -dsimp -implicitDefEqProofs only [go_sem, ↓reduceIte, *])
    | (refine sCallT_io [60000] ?_; simp -dsimp -implicitDefEqProofs only [go_sem, ↓reduceIte]; refine sCallM_one (m4 0) ?_; try simp -dsimp -implicitDefEqProofs only [go_sem, ↓reduceIte, *])
    | (refine sCallT_io [60016] ?_; simp -dsimp -implicitDefEqProofs only [go_sem, ↓reduceIte]; refine sCallM_one (c_markInt64S C (1 + (s4 : Int)) 0 true (by omega) (by omega)) ?_; try simp -dsimp -implicitDefEqProofs only [go_sem, ↓reduceIte, *])
    | (rw [tML]; refine sCallT_one q4 ?_; try simp -dsimp -implicitDefEqProofs only [go_sem, ↓reduceIte])
    | (refine sCallT_one (q4) ?_; try simp -dsimp -implicitDefEqProofs only [go_sem, ↓reduceIte, *])
    | (refine sCallT_one (c_heldInt64S C.length (1 + (s4 : Int)) (by omega) (by omega)) ?_; try simp -dsimp -implicitDefEqProofs only [go_sem, ↓reduceIte, *])
    | (refine sCallX_one (c_toSystem m l hL h3) ?_; try simp -dsimp -implicitDefEqProofs only [go_sem, ↓reduceIte, *])
    | (refine sCallX_one (c_eqSystem m m l l h h4) ?_; try simp -dsimp -implicitDefEqProofs only [go_sem, ↓reduceIte, *])
    | (refine Later.draw mixed rfl ?_; try simp -dsimp -implicitDefEqProofs only [go_sem, ↓reduceIte, *])
  all_goals first
    | omega | (refine ⟨?_, ?_⟩ <;> omega) | (simp; done) | (simp; omega)
    | rfl
    | (simp_all; done)
    | (simp_all; omega)
    | trace_state
end Go.Vc


