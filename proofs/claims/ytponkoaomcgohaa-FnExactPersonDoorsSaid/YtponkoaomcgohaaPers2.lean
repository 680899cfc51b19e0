/-
  Contracts: the doors that a person opens; the law on it.
-/
import Derived.Test.YtponkoaomcgohaaPers
set_option linter.unusedVariables false
set_option linter.unusedSimpArgs false
set_option linter.unnecessarySimpa false
namespace Go.Vc
open Go.Proofs
set_option maxRecDepth 100000
theorem tw_mem {ts : List TagM} {p : Int} {n : Nat} {x : Int} (hn : n ≤ ts.length) (h : x ∈ tw ts p n) : 0 ≤ x ∧ x.toNat < ts.length := by
  simp only [tw, List.mem_map, List.mem_filter, List.mem_range] at h
  obtain ⟨j, ⟨h1, _⟩, rfl⟩ := h
  simp; omega
def rowAt (r : RegM) (k : Int) : Int := (r.tags.getD k.toNat ⟨0, 0, 0⟩).row
def heldRows (r : RegM) (p : Int) : List Int := (tw r.tags p r.tags.length).map (rowAt r)
def personDoors (r : RegM) (t : List (List Int)) (p : Int) : List Int × Int :=
  if isTb t then (if isReg r then (if isIn p 0 (r.roles.length - 1) then openFor t (rowsL (heldRows r p)) else ([], 2)) else ([], 1)) else ([], 1)
theorem rowAt_get {r : RegM} {p : Int} {i : Nat} (hi : i < (tw r.tags p r.tags.length).length) :
    ∃ h : ((tw r.tags p r.tags.length)[i]).toNat < r.tags.length, 0 ≤ (tw r.tags p r.tags.length)[i] ∧ rowAt r (tw r.tags p r.tags.length)[i] = (r.tags[((tw r.tags p r.tags.length)[i]).toNat]).row := by
  obtain ⟨h1, h2⟩ := tw_mem (Nat.le_refl _) (List.getElem_mem hi)
  exact ⟨h2, h1, by rw [rowAt, List.getD_eq_getElem?_getD, List.getElem?_eq_getElem h2]; rfl⟩
theorem heldRows_nn {r : RegM} (h : isReg r = true) (p : Int) : ∀ x ∈ heldRows r p, 0 ≤ x := by
  intro x hx
  simp only [heldRows, List.mem_map] at hx
  obtain ⟨k, hk, rfl⟩ := hx
  obtain ⟨h1, h2⟩ := tw_mem (Nat.le_refl _) hk
  rw [rowAt, List.getD_eq_getElem?_getD, List.getElem?_eq_getElem h2]
  simp only [isReg, Bool.and_eq_true, List.all_eq_true] at h
  have := h.2 _ (List.getElem_mem h2)
  simp only [isTag, Bool.and_eq_true, isIn, decide_eq_true_eq] at this
  show 0 ≤ (r.tags[k.toNat]).row
  omega
theorem heldRows_len (r : RegM) (p : Int) : (heldRows r p).length ≤ r.tags.length := by rw [heldRows, List.length_map]; exact tw_len _ _ _
theorem openFor_far {t : List (List Int)} {xs : List Int} {x : Int} (hb : isTb t = true) (hx : x ∈ xs) (h : (t.length : Int) ≤ x) : openFor t (rowsL xs) = ([], 2) := by
  have : rises (rowsL xs) t.length = false := by
    rw [Bool.eq_false_iff]
    intro hr
    have hm := (rowsL_mem xs x).2 hx
    obtain ⟨i, hi, e⟩ := List.getElem_of_mem hm
    have := ((rises_iff _ _).1 hr).1 i hi
    rw [e] at this
    omega
  rw [openFor, if_pos hb, this]; rfl
theorem openFor_len (t : List (List Int)) (keys : List Int) : (openFor t keys).1.length ≤ 12 := by
  unfold openFor
  split
  · rename_i hb
    split
    · have := flt_len (openAt t keys) (t.getD 0 []).length
      have := (isTb_num hb).2.2.2.1
      show (flt _ _).length ≤ 12
      omega
    · simp
  · simp
theorem personDoors_len (r : RegM) (t : List (List Int)) (p : Int) : (personDoors r t p).1.length ≤ 12 := by
  unfold personDoors
  split
  · split
    · split
      · exact openFor_len _ _
      · simp
    · simp
  · simp
theorem c_iPersonDoors (r : RegM) (t : List (List Int)) (p : Int) (h1 : r.tags.length ≤ 1048576) (h2 : r.roles.length ≤ 1048576) (h3 : t.length ≤ 1048576) (h4 : ∀ x ∈ t, x.length ≤ 1048576) :
    Fn Try.prog 50 [eReg r, eIss t, eI p] true (· = .tup [eIs (personDoors r t p).1, eI (personDoors r t p).2]) := by
  refine Fn.of_vcN 48 [.tmp 6, .tmp 7] Try.func50 rfl rfl rfl rfl rfl (of_decide_eq_true rfl) ?_
  by_cases hc : isTb t = true ∧ isReg r = true ∧ isIn p 0 (r.roles.length - 1) = true
  · obtain ⟨hb, hg, hi⟩ := hc
    have hF : personDoors r t p = openFor t (rowsL (heldRows r p)) := by rw [personDoors, if_pos hb, if_pos hg, if_pos hi]
    have hT : tagsWith r p = (tw r.tags p r.tags.length, 0) := by rw [tagsWith, if_pos hg, if_pos hi]
    rw [hF]
    clear hF
    have hc1 := c_iTagsWith r p h1 h2
    rw [hT] at hc1
    clear hT
    have hl1 := tw_len r.tags p r.tags.length
    have hl2 := heldRows_len r p
    have hl3 := rowsL_len (heldRows r p)
    have hget := fun i hi => rowAt_get (r := r) (p := p) (i := i) hi
    have hh : heldRows r p = (tw r.tags p r.tags.length).map (rowAt r) := rfl
    generalize tw r.tags p r.tags.length = T at hc1 hl1 hget hh
    simp -dsimp -implicitDefEqProofs only [go_sem, ↓reduceIte, Nat.reduceEqDiff, Nat.reduceLT, Nat.reduceAdd, Nat.reduceMul, Nat.reduceLeDiff, Nat.le_refl, Int.natCast_zero, Int.toNat_natCast, Int.reduceToNat]
    repeat' first
      | (refine Br.intro (fun _ => ?_) (fun _ => ?_) <;> try simp -dsimp -implicitDefEqProofs only [go_sem, ↓reduceIte, Nat.reduceEqDiff, Nat.reduceLT, Nat.reduceAdd, Nat.reduceMul, Nat.reduceLeDiff, Nat.le_refl, Int.natCast_zero, Int.toNat_natCast, Int.reduceToNat, *])
      | (with_reducible refine And.intro ?_ ?_)
      | (refine sCallT_one (c_iIsTable t h3 h4) ?_; try simp -dsimp -implicitDefEqProofs only [go_sem, ↓reduceIte, Nat.reduceEqDiff, Nat.reduceLT, Nat.reduceAdd, Nat.reduceMul, Nat.reduceLeDiff, Nat.le_refl, Int.natCast_zero, Int.toNat_natCast, Int.reduceToNat, *])
      | (refine sCallT_one (hc1) ?_; try simp -dsimp -implicitDefEqProofs only [go_sem, ↓reduceIte, Nat.reduceEqDiff, Nat.reduceLT, Nat.reduceAdd, Nat.reduceMul, Nat.reduceLeDiff, Nat.le_refl, Int.natCast_zero, Int.toNat_natCast, Int.reduceToNat, *])
    all_goals try (first | omega | (simp; done) | (simp_all; done))
    refine Later.up [1, 3, 26, 27] [39, 40] [25] T.length (fun _ => True) (fun i => [(28, eI i), (10, .ref 25 0 0 i)]) (fun i => [(25, .row 0 ⟨1, false⟩ true (((T.take i).map (rowAt r)).map eI))]) trivial ?_ rfl (fun i hi _ => ?_) (fun _ => ?_)
    · simp -dsimp -implicitDefEqProofs only [go_sem, ↓reduceIte, Nat.reduceEqDiff, Nat.reduceLT, Nat.reduceAdd, Nat.reduceMul, Nat.reduceLeDiff, Nat.le_refl, Int.natCast_zero, Int.toNat_natCast, Int.reduceToNat]
      all_goals first | (simp; done) | omega | rfl | trace_state
    · obtain ⟨e1, e2, e3⟩ := hget i hi
      have gi := get_some hi
      have li := lt_len hi
      have ga := get_some e1
      have hml : (T.take i).length = i := by simp; omega
      have hs : (T.take (i + 1)).map (rowAt r) = (T.take i).map (rowAt r) ++ [r.tags[T[i].toNat].row] := by rw [List.take_succ_eq_append_getElem hi, List.map_append, ← e3]; rfl
      clear hget e3 hc1 hb hg hh
      simp -dsimp -implicitDefEqProofs only [pick_nil, pick_cons, look_nil, look_cons, dropB_nil, dropB_cons, inD_nil, inD_cons, inE_nil, inE_cons, or_t_l, or_f_l, Nat.reduceBEq, Nat.reduceDiv, Nat.reduceAdd, beq_self_eq_true, Bool.false_eq_true, Bool.or_false, ↓reduceIte, Nat.reduceEqDiff, List.cons_append, List.nil_append]
      rw [hs]
      clear hs
      simp -dsimp -implicitDefEqProofs only [go_sem, ↓reduceIte, Nat.reduceEqDiff, Nat.reduceLT, Nat.reduceAdd, Nat.reduceMul, Nat.reduceLeDiff, Nat.le_refl, Int.natCast_zero, Int.toNat_natCast, Int.reduceToNat, gi, li, ga, hml]
      repeat' first
        | (refine Br.intro (fun _ => ?_) (fun _ => ?_) <;> try simp -dsimp -implicitDefEqProofs only [go_sem, ↓reduceIte, Nat.reduceEqDiff, Nat.reduceLT, Nat.reduceAdd, Nat.reduceMul, Nat.reduceLeDiff, Nat.le_refl, Int.natCast_zero, Int.toNat_natCast, Int.reduceToNat, *])
        | (with_reducible refine And.intro ?_ ?_)
        | (refine Later.draw mixed rfl ?_; try simp -dsimp -implicitDefEqProofs only [go_sem, ↓reduceIte, Nat.reduceEqDiff, Nat.reduceLT, Nat.reduceAdd, Nat.reduceMul, Nat.reduceLeDiff, Nat.le_refl, Int.natCast_zero, Int.toNat_natCast, Int.reduceToNat, *])
      all_goals first
        | omega | (refine ⟨?_, ?_⟩ <;> omega) | (simp; done) | (simp; omega)
        | rfl
        | (simp_all; done)
        | (simp_all; omega)
        | trace_state
    · have hml : T.length = (heldRows r p).length := by rw [hh, List.length_map]
      rw [List.take_length, ← hh, hml]
      clear hget hh hb hg
      simp -dsimp -implicitDefEqProofs only [pick_nil, pick_cons, look_nil, look_cons, dropB_nil, dropB_cons, inD_nil, inD_cons, inE_nil, inE_cons, or_t_l, or_f_l, Nat.reduceBEq, Nat.reduceDiv, Nat.reduceAdd, beq_self_eq_true, Bool.false_eq_true, Bool.or_false, ↓reduceIte, Nat.reduceEqDiff, List.cons_append, List.nil_append]
      simp -dsimp -implicitDefEqProofs only [go_sem, ↓reduceIte, Nat.reduceEqDiff, Nat.reduceLT, Nat.reduceAdd, Nat.reduceMul, Nat.reduceLeDiff, Nat.le_refl, Int.natCast_zero, Int.toNat_natCast, Int.reduceToNat, nlt_len]
      repeat' first
        | (with_reducible refine And.intro ?_ ?_)
        | (refine sCallT_one (c_rowsOf (heldRows r p) (by omega)) ?_; try simp -dsimp -implicitDefEqProofs only [go_sem, ↓reduceIte, Nat.reduceEqDiff, Nat.reduceLT, Nat.reduceAdd, Nat.reduceMul, Nat.reduceLeDiff, Nat.le_refl, Int.natCast_zero, Int.toNat_natCast, Int.reduceToNat, *])
        | (refine sCallT_one (c_iOpenFor t (rowsL (heldRows r p)) h3 h4 (by omega)) ?_; try simp -dsimp -implicitDefEqProofs only [go_sem, ↓reduceIte, Nat.reduceEqDiff, Nat.reduceLT, Nat.reduceAdd, Nat.reduceMul, Nat.reduceLeDiff, Nat.le_refl, Int.natCast_zero, Int.toNat_natCast, Int.reduceToNat, *])
      all_goals first
        | omega | (refine ⟨?_, ?_⟩ <;> omega) | (simp; done) | (simp; omega)
        | rfl
        | (simp; done)
        | (simp_all; done)
        | trace_state
  · have hF : personDoors r t p = ([], if isTb t && isReg r then 2 else 1) := by
      unfold personDoors
      cases hb : isTb t <;> cases hg : isReg r <;> cases hi : isIn p 0 (r.roles.length - 1) <;> simp_all
    have hT : isTb t = true → tagsWith r p = ([], if isReg r then 2 else 1) := by
      intro hb
      unfold tagsWith
      cases hg : isReg r <;> cases hi : isIn p 0 (r.roles.length - 1) <;> simp_all
    rw [hF]
    clear hF hc
    cases hb : isTb t
    · simp -dsimp -implicitDefEqProofs only [go_sem, ↓reduceIte, Nat.reduceEqDiff, Nat.reduceLT, Nat.reduceAdd, Nat.reduceMul, Nat.reduceLeDiff, Nat.le_refl, Int.natCast_zero, Int.toNat_natCast, Int.reduceToNat]
      repeat' first
        | (refine Br.intro (fun _ => ?_) (fun _ => ?_) <;> try simp -dsimp -implicitDefEqProofs only [go_sem, ↓reduceIte, Nat.reduceEqDiff, Nat.reduceLT, Nat.reduceAdd, Nat.reduceMul, Nat.reduceLeDiff, Nat.le_refl, Int.natCast_zero, Int.toNat_natCast, Int.reduceToNat, *])
        | (with_reducible refine And.intro ?_ ?_)
        | (refine sCallT_one (c_iIsTable t h3 h4) ?_; try simp -dsimp -implicitDefEqProofs only [go_sem, ↓reduceIte, Nat.reduceEqDiff, Nat.reduceLT, Nat.reduceAdd, Nat.reduceMul, Nat.reduceLeDiff, Nat.le_refl, Int.natCast_zero, Int.toNat_natCast, Int.reduceToNat, *])
      all_goals first
        | omega
        | (simp_all; done)
        | trace_state
    · have hc1 := c_iTagsWith r p h1 h2
      rw [hT hb] at hc1
      clear hT
      cases hg : isReg r
      all_goals
        rw [hg] at hc1
        simp -dsimp -implicitDefEqProofs only [go_sem, ↓reduceIte, Nat.reduceEqDiff, Nat.reduceLT, Nat.reduceAdd, Nat.reduceMul, Nat.reduceLeDiff, Nat.le_refl, Int.natCast_zero, Int.toNat_natCast, Int.reduceToNat]
        repeat' first
          | (refine Br.intro (fun _ => ?_) (fun _ => ?_) <;> try simp -dsimp -implicitDefEqProofs only [go_sem, ↓reduceIte, Nat.reduceEqDiff, Nat.reduceLT, Nat.reduceAdd, Nat.reduceMul, Nat.reduceLeDiff, Nat.le_refl, Int.natCast_zero, Int.toNat_natCast, Int.reduceToNat, *])
          | (with_reducible refine And.intro ?_ ?_)
          | (refine sCallT_one (c_iIsTable t h3 h4) ?_; try simp -dsimp -implicitDefEqProofs only [go_sem, ↓reduceIte, Nat.reduceEqDiff, Nat.reduceLT, Nat.reduceAdd, Nat.reduceMul, Nat.reduceLeDiff, Nat.le_refl, Int.natCast_zero, Int.toNat_natCast, Int.reduceToNat, *])
          | (refine sCallT_one (hc1) ?_; try simp -dsimp -implicitDefEqProofs only [go_sem, ↓reduceIte, Nat.reduceEqDiff, Nat.reduceLT, Nat.reduceAdd, Nat.reduceMul, Nat.reduceLeDiff, Nat.le_refl, Int.natCast_zero, Int.toNat_natCast, Int.reduceToNat, *])
        all_goals first
          | omega
          | (simp_all; done)
          | trace_state
theorem c_sPersonDoors (r : RegM) (t : List (List Int)) (p : Int) (h1 : r.tags.length ≤ 1048576) (h2 : r.roles.length ≤ 1048576) (h3 : t.length ≤ 1048576) (h4 : ∀ x ∈ t, x.length ≤ 1048576) :
    Fn Try.prog 48 [eReg r, eIss t, eI p] true (· = .tup [eIs (personDoors r t p).1, eI (personDoors r t p).2]) := by
  refine Fn.of_vcN 57 [.tmp 6, .tmp 7] Try.func48 rfl rfl rfl rfl rfl (of_decide_eq_true rfl) ?_
  by_cases hc : isTb t = true ∧ isReg r = true ∧ isIn p 0 (r.roles.length - 1) = true
  · obtain ⟨hb, hg, hi⟩ := hc
    have hF : personDoors r t p = openFor t (rowsL (heldRows r p)) := by rw [personDoors, if_pos hb, if_pos hg, if_pos hi]
    rw [hF]
    clear hF
    have hc1 := c_l30With r p h1 h2
    have hl1 := tw_len r.tags p r.tags.length
    have hl2 := heldRows_len r p
    have hl3 := rowsL_len (heldRows r p)
    have hnn := heldRows_nn hg p
    have hget := fun i hi => rowAt_get (r := r) (p := p) (i := i) hi
    have hh : heldRows r p = (tw r.tags p r.tags.length).map (rowAt r) := rfl
    generalize tw r.tags p r.tags.length = T at hc1 hl1 hget hh
    have hfar : ∀ i (hi : i < T.length), (t.length : Int) ≤ rowAt r T[i] → openFor t (rowsL (heldRows r p)) = ([], 2) := fun i hi hx => openFor_far hb (by rw [hh]; exact List.mem_map_of_mem (List.getElem_mem hi)) hx
    simp -dsimp -implicitDefEqProofs only [go_sem, ↓reduceIte, Nat.reduceEqDiff, Nat.reduceLT, Nat.reduceAdd, Nat.reduceMul, Nat.reduceLeDiff, Nat.le_refl, Int.natCast_zero, Int.toNat_natCast, Int.reduceToNat]
    repeat' first
      | (refine Br.intro (fun _ => ?_) (fun _ => ?_) <;> try simp -dsimp -implicitDefEqProofs only [go_sem, ↓reduceIte, Nat.reduceEqDiff, Nat.reduceLT, Nat.reduceAdd, Nat.reduceMul, Nat.reduceLeDiff, Nat.le_refl, Int.natCast_zero, Int.toNat_natCast, Int.reduceToNat, *])
      | (with_reducible refine And.intro ?_ ?_)
      | (refine sCallT_one (c_sIsRegister r) ?_; try simp -dsimp -implicitDefEqProofs only [go_sem, ↓reduceIte, Nat.reduceEqDiff, Nat.reduceLT, Nat.reduceAdd, Nat.reduceMul, Nat.reduceLeDiff, Nat.le_refl, Int.natCast_zero, Int.toNat_natCast, Int.reduceToNat, *])
      | (refine sCallX_one (c_sIsRegister r) ?_; try simp -dsimp -implicitDefEqProofs only [go_sem, ↓reduceIte, Nat.reduceEqDiff, Nat.reduceLT, Nat.reduceAdd, Nat.reduceMul, Nat.reduceLeDiff, Nat.le_refl, Int.natCast_zero, Int.toNat_natCast, Int.reduceToNat, *])
      | (refine sCallT_one (c_sIsTable t h3 h4) ?_; try simp -dsimp -implicitDefEqProofs only [go_sem, ↓reduceIte, Nat.reduceEqDiff, Nat.reduceLT, Nat.reduceAdd, Nat.reduceMul, Nat.reduceLeDiff, Nat.le_refl, Int.natCast_zero, Int.toNat_natCast, Int.reduceToNat, *])
      | (refine sCallX_one (c_sIsTable t h3 h4) ?_; try simp -dsimp -implicitDefEqProofs only [go_sem, ↓reduceIte, Nat.reduceEqDiff, Nat.reduceLT, Nat.reduceAdd, Nat.reduceMul, Nat.reduceLeDiff, Nat.le_refl, Int.natCast_zero, Int.toNat_natCast, Int.reduceToNat, *])
      | (refine sCallT_one (c_l30Person r p h2) ?_; try simp -dsimp -implicitDefEqProofs only [go_sem, ↓reduceIte, Nat.reduceEqDiff, Nat.reduceLT, Nat.reduceAdd, Nat.reduceMul, Nat.reduceLeDiff, Nat.le_refl, Int.natCast_zero, Int.toNat_natCast, Int.reduceToNat, *])
      | (refine sCallT_one (hc1) ?_; try simp -dsimp -implicitDefEqProofs only [go_sem, ↓reduceIte, Nat.reduceEqDiff, Nat.reduceLT, Nat.reduceAdd, Nat.reduceMul, Nat.reduceLeDiff, Nat.le_refl, Int.natCast_zero, Int.toNat_natCast, Int.reduceToNat, *])
      | (refine Later.draw mixed rfl ?_; try simp -dsimp -implicitDefEqProofs only [go_sem, ↓reduceIte, Nat.reduceEqDiff, Nat.reduceLT, Nat.reduceAdd, Nat.reduceMul, Nat.reduceLeDiff, Nat.le_refl, Int.natCast_zero, Int.toNat_natCast, Int.reduceToNat, *])
    all_goals try (first | omega | (exact rfl) | (simp; done) | (simp_all; done))
    refine Later.up [1, 3, 8] [30, 45, 49, 50] [27] T.length (fun _ => True) (fun i => [(10, eI i), (9, .ref 27 0 0 i)]) (fun i => [(27, .row 0 ⟨1, false⟩ true (((T.take i).map (rowAt r)).map eI))]) trivial ?_ rfl (fun i hi _ => ?_) (fun _ => ?_)
    · simp -dsimp -implicitDefEqProofs only [go_sem, ↓reduceIte, Nat.reduceEqDiff, Nat.reduceLT, Nat.reduceAdd, Nat.reduceMul, Nat.reduceLeDiff, Nat.le_refl, Int.natCast_zero, Int.toNat_natCast, Int.reduceToNat]
      all_goals first | (simp; done) | omega | rfl | trace_state
    · obtain ⟨e1, e2, e3⟩ := hget i hi
      have gi := get_some hi
      have li := lt_len hi
      have ga := get_some e1
      have hf := hfar i hi
      rw [e3] at hf
      have hml : (T.take i).length = i := by simp; omega
      have hs : (T.take (i + 1)).map (rowAt r) = (T.take i).map (rowAt r) ++ [r.tags[T[i].toNat].row] := by rw [List.take_succ_eq_append_getElem hi, List.map_append, ← e3]; rfl
      clear hget e3 hc1 hb hg hh hfar hnn
      generalize openFor t (rowsL (heldRows r p)) = O at hf
      simp -dsimp -implicitDefEqProofs only [pick_nil, pick_cons, look_nil, look_cons, dropB_nil, dropB_cons, inD_nil, inD_cons, inE_nil, inE_cons, or_t_l, or_f_l, Nat.reduceBEq, Nat.reduceDiv, Nat.reduceAdd, beq_self_eq_true, Bool.false_eq_true, Bool.or_false, ↓reduceIte, Nat.reduceEqDiff, List.cons_append, List.nil_append]
      rw [hs]
      clear hs
      simp -dsimp -implicitDefEqProofs only [go_sem, ↓reduceIte, Nat.reduceEqDiff, Nat.reduceLT, Nat.reduceAdd, Nat.reduceMul, Nat.reduceLeDiff, Nat.le_refl, Int.natCast_zero, Int.toNat_natCast, Int.reduceToNat, gi, li, ga, hml]
      repeat' first
        | (refine Br.intro (fun _ => ?_) (fun _ => ?_) <;> try simp -dsimp -implicitDefEqProofs only [go_sem, ↓reduceIte, Nat.reduceEqDiff, Nat.reduceLT, Nat.reduceAdd, Nat.reduceMul, Nat.reduceLeDiff, Nat.le_refl, Int.natCast_zero, Int.toNat_natCast, Int.reduceToNat, *])
        | (with_reducible refine And.intro ?_ ?_)
        | (refine Later.draw mixed rfl ?_; try simp -dsimp -implicitDefEqProofs only [go_sem, ↓reduceIte, Nat.reduceEqDiff, Nat.reduceLT, Nat.reduceAdd, Nat.reduceMul, Nat.reduceLeDiff, Nat.le_refl, Int.natCast_zero, Int.toNat_natCast, Int.reduceToNat, gi, li, ga, hml])
      all_goals first
        | omega | (refine ⟨?_, ?_⟩ <;> omega) | (simp; done) | (simp; omega)
        | rfl
        | (rename_i hx; rw [hf (by simpa using of_decide_eq_true hx)]; done)
        | (simp_all; done)
        | (simp_all; omega)
        | trace_state
    · have hml : T.length = (heldRows r p).length := by rw [hh, List.length_map]
      rw [List.take_length, ← hh, hml]
      clear hget hh hb hg hfar
      simp -dsimp -implicitDefEqProofs only [pick_nil, pick_cons, look_nil, look_cons, dropB_nil, dropB_cons, inD_nil, inD_cons, inE_nil, inE_cons, or_t_l, or_f_l, Nat.reduceBEq, Nat.reduceDiv, Nat.reduceAdd, beq_self_eq_true, Bool.false_eq_true, Bool.or_false, ↓reduceIte, Nat.reduceEqDiff, List.cons_append, List.nil_append]
      simp -dsimp -implicitDefEqProofs only [go_sem, ↓reduceIte, Nat.reduceEqDiff, Nat.reduceLT, Nat.reduceAdd, Nat.reduceMul, Nat.reduceLeDiff, Nat.le_refl, Int.natCast_zero, Int.toNat_natCast, Int.reduceToNat, nlt_len]
      repeat' first
        | (with_reducible refine And.intro ?_ ?_)
        | (refine sCallT_one (c_l18Different (heldRows r p) (by omega) hnn) ?_; try simp -dsimp -implicitDefEqProofs only [go_sem, ↓reduceIte, Nat.reduceEqDiff, Nat.reduceLT, Nat.reduceAdd, Nat.reduceMul, Nat.reduceLeDiff, Nat.le_refl, Int.natCast_zero, Int.toNat_natCast, Int.reduceToNat, *])
        | (refine sCallT_one (c_sOpenFor t (rowsL (heldRows r p)) h3 h4 (by omega)) ?_; try simp -dsimp -implicitDefEqProofs only [go_sem, ↓reduceIte, Nat.reduceEqDiff, Nat.reduceLT, Nat.reduceAdd, Nat.reduceMul, Nat.reduceLeDiff, Nat.le_refl, Int.natCast_zero, Int.toNat_natCast, Int.reduceToNat, *])
      all_goals first
        | omega | (refine ⟨?_, ?_⟩ <;> omega) | (simp; done) | (simp; omega)
        | rfl
        | (simp; done)
        | (simp_all; done)
        | trace_state
  · have hF : personDoors r t p = ([], if isTb t && isReg r then 2 else 1) := by
      unfold personDoors
      cases hb : isTb t <;> cases hg : isReg r <;> cases hi : isIn p 0 (r.roles.length - 1) <;> simp_all
    rw [hF]
    clear hF
    simp -dsimp -implicitDefEqProofs only [go_sem, ↓reduceIte, Nat.reduceEqDiff, Nat.reduceLT, Nat.reduceAdd, Nat.reduceMul, Nat.reduceLeDiff, Nat.le_refl, Int.natCast_zero, Int.toNat_natCast, Int.reduceToNat]
    repeat' first
      | (refine Br.intro (fun _ => ?_) (fun _ => ?_) <;> try simp -dsimp -implicitDefEqProofs only [go_sem, ↓reduceIte, Nat.reduceEqDiff, Nat.reduceLT, Nat.reduceAdd, Nat.reduceMul, Nat.reduceLeDiff, Nat.le_refl, Int.natCast_zero, Int.toNat_natCast, Int.reduceToNat, *])
      | (with_reducible refine And.intro ?_ ?_)
      | (refine sCallT_one (c_sIsRegister r) ?_; try simp -dsimp -implicitDefEqProofs only [go_sem, ↓reduceIte, Nat.reduceEqDiff, Nat.reduceLT, Nat.reduceAdd, Nat.reduceMul, Nat.reduceLeDiff, Nat.le_refl, Int.natCast_zero, Int.toNat_natCast, Int.reduceToNat, *])
      | (refine sCallX_one (c_sIsRegister r) ?_; try simp -dsimp -implicitDefEqProofs only [go_sem, ↓reduceIte, Nat.reduceEqDiff, Nat.reduceLT, Nat.reduceAdd, Nat.reduceMul, Nat.reduceLeDiff, Nat.le_refl, Int.natCast_zero, Int.toNat_natCast, Int.reduceToNat, *])
      | (refine sCallT_one (c_sIsTable t h3 h4) ?_; try simp -dsimp -implicitDefEqProofs only [go_sem, ↓reduceIte, Nat.reduceEqDiff, Nat.reduceLT, Nat.reduceAdd, Nat.reduceMul, Nat.reduceLeDiff, Nat.le_refl, Int.natCast_zero, Int.toNat_natCast, Int.reduceToNat, *])
      | (refine sCallX_one (c_sIsTable t h3 h4) ?_; try simp -dsimp -implicitDefEqProofs only [go_sem, ↓reduceIte, Nat.reduceEqDiff, Nat.reduceLT, Nat.reduceAdd, Nat.reduceMul, Nat.reduceLeDiff, Nat.le_refl, Int.natCast_zero, Int.toNat_natCast, Int.reduceToNat, *])
      | (refine sCallT_one (c_l30Person r p h2) ?_; try simp -dsimp -implicitDefEqProofs only [go_sem, ↓reduceIte, Nat.reduceEqDiff, Nat.reduceLT, Nat.reduceAdd, Nat.reduceMul, Nat.reduceLeDiff, Nat.le_refl, Int.natCast_zero, Int.toNat_natCast, Int.reduceToNat, *])
      | (refine Later.draw mixed rfl ?_; try simp -dsimp -implicitDefEqProofs only [go_sem, ↓reduceIte, Nat.reduceEqDiff, Nat.reduceLT, Nat.reduceAdd, Nat.reduceMul, Nat.reduceLeDiff, Nat.le_refl, Int.natCast_zero, Int.toNat_natCast, Int.reduceToNat, *])
    all_goals first
      | omega
      | (exact rfl)
      | (simp_all; done)
      | (exfalso; simp_all; done)
      | trace_state
end Go.Vc
