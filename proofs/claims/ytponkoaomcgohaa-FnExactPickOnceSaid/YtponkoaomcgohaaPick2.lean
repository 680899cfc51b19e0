/-
  Contracts of the functions on picking: the binding chamber, the fewest picks, one pick.
-/
import Derived.Test.YtponkoaomcgohaaPick
set_option linter.unusedVariables false
set_option linter.unusedSimpArgs false
set_option linter.unnecessarySimpa false
namespace Go.Vc
open Go.Proofs
set_option maxRecDepth 100000
def binding (m : MkM) (l : List (List Int)) (o s : List Int) : Int × Int := if pkCode m l o s = 0 then (if s.length = o.length then (0, 5) else (o.getD s.length 0, 0)) else (0, pkCode m l o s)
theorem c_iCode0 (m : MkM) (l : List (List Int)) (o s : List Int) (h : l.length ≤ 1048576) (h2 : ∀ x ∈ l, x.length ≤ 1048576) (h3 : o.length ≤ 1048576) (h4 : s.length ≤ 1048576) : Fn Try.prog 54 [eMk m, eLk l, eIs o, eIs s, eNil] true (· = eI (pkCode m l o s)) := by
  have := (c_pickCode m l o s [] h h2 h3 h4 (by simp)).subs (args' := [eMk m, eLk l, eIs o, eIs s, eNil]) (.cons (.refl _) (.cons (.refl _) (.cons (.refl _) (.cons (.refl _) (.cons (.nil _) .nil)))))
  rw [pksCode_nil] at this
  exact this
theorem c_iCode00 (m : MkM) (l : List (List Int)) (o : List Int) (h : l.length ≤ 1048576) (h2 : ∀ x ∈ l, x.length ≤ 1048576) (h3 : o.length ≤ 1048576) : Fn Try.prog 54 [eMk m, eLk l, eIs o, eNil, eNil] true (· = eI (pkCode m l o [])) :=
  (c_iCode0 m l o [] h h2 h3 (by simp)).subs (.cons (.refl _) (.cons (.refl _) (.cons (.refl _) (.cons (.nil _) (.cons (.refl _) .nil)))))
theorem c_sCode0 (m : MkM) (l : List (List Int)) (o : List Int) (h : l.length ≤ 1048576) (h2 : ∀ x ∈ l, x.length ≤ 1048576) (h3 : o.length ≤ 1048576) : Fn Try.prog 53 [eMk m, eLk l, eIs o, eNil] true (· = eI (pkCode m l o [])) :=
  (c_l32Code m l o [] h h2 h3 (by simp)).subs (.cons (.refl _) (.cons (.refl _) (.cons (.refl _) (.cons (.nil _) .nil))))
theorem setOk_len {o s : List Int} (h : setOk o s = true) : s.length ≤ o.length := by
  simp only [setOk, Bool.and_eq_true] at h
  have := rises_len (by omega) h.1
  omega
theorem c_sBinding (m : MkM) (l : List (List Int)) (o s : List Int) (h : l.length ≤ 1048576) (h2 : ∀ x ∈ l, x.length ≤ 1048576) (h3 : o.length ≤ 1048576) (h4 : s.length ≤ 1048576) : Fn Try.prog 13 [eMk m, eLk l, eIs o, eIs s] true (· = .tup [eI (binding m l o s).1, eI (binding m l o s).2]) := by
  refine Fn.of_vcN 33 [.tmp 8, .tmp 9] Try.func13 rfl rfl rfl rfl rfl (of_decide_eq_true rfl) ?_
  by_cases hb : pkCode m l o s = 0
  · obtain ⟨k1, k2, k3⟩ := pkCode_zero hb
    have hsl := setOk_len k3
    by_cases he : s.length = o.length
    · have hd : ((s.length : Int) == o.length) = true := by simp [he]
      simp -dsimp -implicitDefEqProofs only [go_sem, ↓reduceIte, Nat.reduceEqDiff, Nat.reduceLT, Nat.reduceAdd, Nat.reduceMul, Nat.reduceLeDiff, Nat.le_refl, Int.natCast_zero, Int.toNat_natCast, Int.reduceToNat]
      repeat' first
        | (refine Br.intro (fun _ => ?_) (fun _ => ?_) <;> try simp -dsimp -implicitDefEqProofs only [go_sem, ↓reduceIte, Nat.reduceEqDiff, Nat.reduceLT, Nat.reduceAdd, Nat.reduceMul, Nat.reduceLeDiff, Nat.le_refl, Int.natCast_zero, Int.toNat_natCast, Int.reduceToNat, *])
        | (with_reducible refine And.intro ?_ ?_)
        | (refine sCallT_one (c_l32Code m l o s h h2 h3 h4) ?_; try simp -dsimp -implicitDefEqProofs only [go_sem, ↓reduceIte, Nat.reduceEqDiff, Nat.reduceLT, Nat.reduceAdd, Nat.reduceMul, Nat.reduceLeDiff, Nat.le_refl, Int.natCast_zero, Int.toNat_natCast, Int.reduceToNat, *])
      all_goals first
        | omega
        | (simp_all [binding]; done)
        | trace_state
    · have hd : ((s.length : Int) == o.length) = false := by simp; omega
      have hi : s.length < o.length := by omega
      have gi := get_some hi
      simp -dsimp -implicitDefEqProofs only [go_sem, ↓reduceIte, Nat.reduceEqDiff, Nat.reduceLT, Nat.reduceAdd, Nat.reduceMul, Nat.reduceLeDiff, Nat.le_refl, Int.natCast_zero, Int.toNat_natCast, Int.reduceToNat]
      repeat' first
        | (refine Br.intro (fun _ => ?_) (fun _ => ?_) <;> try simp -dsimp -implicitDefEqProofs only [go_sem, ↓reduceIte, Nat.reduceEqDiff, Nat.reduceLT, Nat.reduceAdd, Nat.reduceMul, Nat.reduceLeDiff, Nat.le_refl, Int.natCast_zero, Int.toNat_natCast, Int.reduceToNat, *])
        | (with_reducible refine And.intro ?_ ?_)
        | (refine sCallT_one (c_l32Code m l o s h h2 h3 h4) ?_; try simp -dsimp -implicitDefEqProofs only [go_sem, ↓reduceIte, Nat.reduceEqDiff, Nat.reduceLT, Nat.reduceAdd, Nat.reduceMul, Nat.reduceLeDiff, Nat.le_refl, Int.natCast_zero, Int.toNat_natCast, Int.reduceToNat, *])
      all_goals first
        | omega
        | (refine ⟨?_, ?_⟩ <;> omega)
        | (simp_all [binding, List.getD_eq_getElem?_getD]; done)
        | trace_state
  · simp -dsimp -implicitDefEqProofs only [go_sem, ↓reduceIte, Nat.reduceEqDiff, Nat.reduceLT, Nat.reduceAdd, Nat.reduceMul, Nat.reduceLeDiff, Nat.le_refl, Int.natCast_zero, Int.toNat_natCast, Int.reduceToNat]
    repeat' first
      | (refine Br.intro (fun _ => ?_) (fun _ => ?_) <;> try simp -dsimp -implicitDefEqProofs only [go_sem, ↓reduceIte, Nat.reduceEqDiff, Nat.reduceLT, Nat.reduceAdd, Nat.reduceMul, Nat.reduceLeDiff, Nat.le_refl, Int.natCast_zero, Int.toNat_natCast, Int.reduceToNat, *])
      | (with_reducible refine And.intro ?_ ?_)
      | (refine sCallT_one (c_l32Code m l o s h h2 h3 h4) ?_; try simp -dsimp -implicitDefEqProofs only [go_sem, ↓reduceIte, Nat.reduceEqDiff, Nat.reduceLT, Nat.reduceAdd, Nat.reduceMul, Nat.reduceLeDiff, Nat.le_refl, Int.natCast_zero, Int.toNat_natCast, Int.reduceToNat, *])
    all_goals first
      | omega
      | (simp_all [binding]; done)
      | trace_state
theorem c_iBinding (m : MkM) (l : List (List Int)) (o s : List Int) (h : l.length ≤ 1048576) (h2 : ∀ x ∈ l, x.length ≤ 1048576) (h3 : o.length ≤ 1048576) (h4 : s.length ≤ 1048576) : Fn Try.prog 17 [eMk m, eLk l, eIs o, eIs s] true (· = .tup [eI (binding m l o s).1, eI (binding m l o s).2]) := by
  refine Fn.of_vcN 29 [.tmp 8, .tmp 9] Try.func17 rfl rfl rfl rfl rfl (of_decide_eq_true rfl) ?_
  by_cases hb : pkCode m l o s = 0
  · obtain ⟨k1, k2, k3⟩ := pkCode_zero hb
    have hsl := setOk_len k3
    by_cases he : s.length = o.length
    · have hd : ((s.length : Int) == o.length) = true := by simp [he]
      simp -dsimp -implicitDefEqProofs only [go_sem, ↓reduceIte, Nat.reduceEqDiff, Nat.reduceLT, Nat.reduceAdd, Nat.reduceMul, Nat.reduceLeDiff, Nat.le_refl, Int.natCast_zero, Int.toNat_natCast, Int.reduceToNat]
      repeat' first
        | (refine Br.intro (fun _ => ?_) (fun _ => ?_) <;> try simp -dsimp -implicitDefEqProofs only [go_sem, ↓reduceIte, Nat.reduceEqDiff, Nat.reduceLT, Nat.reduceAdd, Nat.reduceMul, Nat.reduceLeDiff, Nat.le_refl, Int.natCast_zero, Int.toNat_natCast, Int.reduceToNat, *])
        | (with_reducible refine And.intro ?_ ?_)
        | (refine sCallT_one (c_iCode0 m l o s h h2 h3 h4) ?_; try simp -dsimp -implicitDefEqProofs only [go_sem, ↓reduceIte, Nat.reduceEqDiff, Nat.reduceLT, Nat.reduceAdd, Nat.reduceMul, Nat.reduceLeDiff, Nat.le_refl, Int.natCast_zero, Int.toNat_natCast, Int.reduceToNat, *])
      all_goals first
        | omega
        | (simp_all [binding]; done)
        | trace_state
    · have hd : ((s.length : Int) == o.length) = false := by simp; omega
      have hi : s.length < o.length := by omega
      have gi := get_some hi
      simp -dsimp -implicitDefEqProofs only [go_sem, ↓reduceIte, Nat.reduceEqDiff, Nat.reduceLT, Nat.reduceAdd, Nat.reduceMul, Nat.reduceLeDiff, Nat.le_refl, Int.natCast_zero, Int.toNat_natCast, Int.reduceToNat]
      repeat' first
        | (refine Br.intro (fun _ => ?_) (fun _ => ?_) <;> try simp -dsimp -implicitDefEqProofs only [go_sem, ↓reduceIte, Nat.reduceEqDiff, Nat.reduceLT, Nat.reduceAdd, Nat.reduceMul, Nat.reduceLeDiff, Nat.le_refl, Int.natCast_zero, Int.toNat_natCast, Int.reduceToNat, *])
        | (with_reducible refine And.intro ?_ ?_)
        | (refine sCallT_one (c_iCode0 m l o s h h2 h3 h4) ?_; try simp -dsimp -implicitDefEqProofs only [go_sem, ↓reduceIte, Nat.reduceEqDiff, Nat.reduceLT, Nat.reduceAdd, Nat.reduceMul, Nat.reduceLeDiff, Nat.le_refl, Int.natCast_zero, Int.toNat_natCast, Int.reduceToNat, *])
      all_goals first
        | omega
        | (refine ⟨?_, ?_⟩ <;> omega)
        | (simp_all [binding, List.getD_eq_getElem?_getD]; done)
        | trace_state
  · simp -dsimp -implicitDefEqProofs only [go_sem, ↓reduceIte, Nat.reduceEqDiff, Nat.reduceLT, Nat.reduceAdd, Nat.reduceMul, Nat.reduceLeDiff, Nat.le_refl, Int.natCast_zero, Int.toNat_natCast, Int.reduceToNat]
    repeat' first
      | (refine Br.intro (fun _ => ?_) (fun _ => ?_) <;> try simp -dsimp -implicitDefEqProofs only [go_sem, ↓reduceIte, Nat.reduceEqDiff, Nat.reduceLT, Nat.reduceAdd, Nat.reduceMul, Nat.reduceLeDiff, Nat.le_refl, Int.natCast_zero, Int.toNat_natCast, Int.reduceToNat, *])
      | (with_reducible refine And.intro ?_ ?_)
      | (refine sCallT_one (c_iCode0 m l o s h h2 h3 h4) ?_; try simp -dsimp -implicitDefEqProofs only [go_sem, ↓reduceIte, Nat.reduceEqDiff, Nat.reduceLT, Nat.reduceAdd, Nat.reduceMul, Nat.reduceLeDiff, Nat.le_refl, Int.natCast_zero, Int.toNat_natCast, Int.reduceToNat, *])
    all_goals first
      | omega
      | (simp_all [binding]; done)
      | trace_state
def fewestL (l : List (List Int)) (o : List Int) : List PkM := o.map fun c => ⟨c, (cset l c).getD 0 0⟩
def fewest (m : MkM) (l : List (List Int)) (o : List Int) : List PkM × Int := if pkCode m l o [] = 0 then (fewestL l o, 0) else ([], pkCode m l o [])
theorem c_sFewest (m : MkM) (l : List (List Int)) (o : List Int) (h : l.length ≤ 1048576) (h2 : ∀ x ∈ l, x.length ≤ 1048576) (h3 : o.length ≤ 1048576) : Fn Try.prog 22 [eMk m, eLk l, eIs o] true (· = .tup [ePs (fewest m l o).1, eI (fewest m l o).2]) := by
  refine Fn.of_vcN 44 [.tmp 6, .tmp 7] Try.func22 rfl rfl rfl rfl rfl (of_decide_eq_true rfl) ?_
  by_cases hb : pkCode m l o [] = 0
  rotate_left
  · simp -dsimp -implicitDefEqProofs only [go_sem, ↓reduceIte, Nat.reduceEqDiff, Nat.reduceLT, Nat.reduceAdd, Nat.reduceMul, Nat.reduceLeDiff, Nat.le_refl, Int.natCast_zero, Int.toNat_natCast, Int.reduceToNat]
    repeat' first
      | (refine Br.intro (fun _ => ?_) (fun _ => ?_) <;> try simp -dsimp -implicitDefEqProofs only [go_sem, ↓reduceIte, Nat.reduceEqDiff, Nat.reduceLT, Nat.reduceAdd, Nat.reduceMul, Nat.reduceLeDiff, Nat.le_refl, Int.natCast_zero, Int.toNat_natCast, Int.reduceToNat, *])
      | (with_reducible refine And.intro ?_ ?_)
      | (refine sCallT_one (c_sCode0 m l o h h2 h3) ?_; try simp -dsimp -implicitDefEqProofs only [go_sem, ↓reduceIte, Nat.reduceEqDiff, Nat.reduceLT, Nat.reduceAdd, Nat.reduceMul, Nat.reduceLeDiff, Nat.le_refl, Int.natCast_zero, Int.toNat_natCast, Int.reduceToNat, *])
    all_goals first
      | omega
      | (simp_all [fewest]; done)
      | trace_state
  obtain ⟨k1, k2, k3⟩ := pkCode_zero hb
  have pk := Pk.of k1 k2
  have n6 := pk.n6
  have hF : fewest m l o = (fewestL l o, 0) := by rw [fewest, if_pos hb]
  have hl : (fewestL l o).length = o.length := by simp [fewestL]
  simp -dsimp -implicitDefEqProofs only [go_sem, ↓reduceIte, Nat.reduceEqDiff, Nat.reduceLT, Nat.reduceAdd, Nat.reduceMul, Nat.reduceLeDiff, Nat.le_refl, Int.natCast_zero, Int.toNat_natCast, Int.reduceToNat]
  repeat' first
    | (refine Br.intro (fun _ => ?_) (fun _ => ?_) <;> try simp -dsimp -implicitDefEqProofs only [go_sem, ↓reduceIte, Nat.reduceEqDiff, Nat.reduceLT, Nat.reduceAdd, Nat.reduceMul, Nat.reduceLeDiff, Nat.le_refl, Int.natCast_zero, Int.toNat_natCast, Int.reduceToNat, *])
    | (with_reducible refine And.intro ?_ ?_)
    | (refine sCallT_one (c_sCode0 m l o h h2 h3) ?_; try simp -dsimp -implicitDefEqProofs only [go_sem, ↓reduceIte, Nat.reduceEqDiff, Nat.reduceLT, Nat.reduceAdd, Nat.reduceMul, Nat.reduceLeDiff, Nat.le_refl, Int.natCast_zero, Int.toNat_natCast, Int.reduceToNat, *])
  all_goals try (first | omega | (simp_all; done))
  refine Later.up [2, 4] [21, 41, 42] [18] o.length (fun _ => True) (fun i => [(10, eI i), (9, .ref 18 0 0 i)]) (fun i => [(18, .row 0 ⟨2, true⟩ true (((fewestL l o).take i).map eP))]) trivial ?_ rfl (fun i hi _ => ?_) (fun _ => ?_)
  · simp -dsimp -implicitDefEqProofs only [go_sem, ↓reduceIte, Nat.reduceEqDiff, Nat.reduceLT, Nat.reduceAdd, Nat.reduceMul, Nat.reduceLeDiff, Nat.le_refl, Int.natCast_zero, Int.toNat_natCast, Int.reduceToNat]
    all_goals simp
  · have gi := get_some hi
    have li := lt_len hi
    have hio := pk.io i hi
    obtain ⟨hc, hce⟩ := pk.cset hio.1 hio.2
    have hst := (pk.st _ hc).1
    have gc := get_some hc
    have g0 := get_some hst
    have hi' : i < (fewestL l o).length := by omega
    have hs := take_map_snoc eP hi'
    have he : (fewestL l o)[i] = ⟨o[i], l[(o[i]).toNat][0]⟩ := by simp [fewestL, hce, List.getD_eq_getElem?_getD, hst]
    rw [he] at hs
    have hm : min i (fewestL l o).length = i := by omega
    clear he hF k1 k2 k3 pk
    simp -dsimp -implicitDefEqProofs only [pick_nil, pick_cons, look_nil, look_cons, dropB_nil, dropB_cons, inD_nil, inD_cons, inE_nil, inE_cons, or_t_l, or_f_l, Nat.reduceBEq, Nat.reduceDiv, Nat.reduceAdd, beq_self_eq_true, Bool.false_eq_true, Bool.or_false, ↓reduceIte, Nat.reduceEqDiff, List.cons_append, List.nil_append]
    simp -dsimp -implicitDefEqProofs only [go_sem, ↓reduceIte, Nat.reduceEqDiff, Nat.reduceLT, Nat.reduceAdd, Nat.reduceMul, Nat.reduceLeDiff, Nat.le_refl, Int.natCast_zero, Int.toNat_natCast, Int.reduceToNat, li, gi, gc, g0, hm]
    repeat' first
      | (refine Br.intro (fun _ => ?_) (fun _ => ?_) <;> try simp -dsimp -implicitDefEqProofs only [go_sem, ↓reduceIte, Nat.reduceEqDiff, Nat.reduceLT, Nat.reduceAdd, Nat.reduceMul, Nat.reduceLeDiff, Nat.le_refl, Int.natCast_zero, Int.toNat_natCast, Int.reduceToNat, *])
      | (with_reducible refine And.intro ?_ ?_)
      | (refine Later.draw mixed rfl ?_; try simp -dsimp -implicitDefEqProofs only [go_sem, ↓reduceIte, Nat.reduceEqDiff, Nat.reduceLT, Nat.reduceAdd, Nat.reduceMul, Nat.reduceLeDiff, Nat.le_refl, Int.natCast_zero, Int.toNat_natCast, Int.reduceToNat, li, gi, gc, g0, hm])
    all_goals first
      | omega
      | (refine ⟨?_, ?_⟩ <;> omega)
      | rfl
      | (simp; done)
      | exact hs
      | (simp_all; done)
      | trace_state
  · have ht : ((fewestL l o).map eP).take o.length = (fewestL l o).map eP := List.take_of_length_le (by simp [hl])
    have hm : min o.length (fewestL l o).length = o.length := by omega
    rw [hF]
    simp -dsimp -implicitDefEqProofs only [pick_nil, pick_cons, look_nil, look_cons, dropB_nil, dropB_cons, inD_nil, inD_cons, inE_nil, inE_cons, or_t_l, or_f_l, Nat.reduceBEq, Nat.reduceDiv, Nat.reduceAdd, beq_self_eq_true, Bool.false_eq_true, Bool.or_false, ↓reduceIte, Nat.reduceEqDiff, List.cons_append, List.nil_append]
    simp -dsimp -implicitDefEqProofs only [go_sem, ↓reduceIte, Nat.reduceEqDiff, Nat.reduceLT, Nat.reduceAdd, Nat.reduceMul, Nat.reduceLeDiff, Nat.le_refl, Int.natCast_zero, Int.toNat_natCast, Int.reduceToNat, nlt_len, ht, hm]
    repeat' (with_reducible refine And.intro ?_ ?_)
    all_goals first
      | omega
      | rfl
      | (simp; done)
      | trace_state
theorem c_iFewest (m : MkM) (l : List (List Int)) (o : List Int) (h : l.length ≤ 1048576) (h2 : ∀ x ∈ l, x.length ≤ 1048576) (h3 : o.length ≤ 1048576) : Fn Try.prog 23 [eMk m, eLk l, eIs o] true (· = .tup [ePs (fewest m l o).1, eI (fewest m l o).2]) := by
  refine Fn.of_vcN 40 [.tmp 6, .tmp 7] Try.func23 rfl rfl rfl rfl rfl (of_decide_eq_true rfl) ?_
  by_cases hb : pkCode m l o [] = 0
  rotate_left
  · simp -dsimp -implicitDefEqProofs only [go_sem, ↓reduceIte, Nat.reduceEqDiff, Nat.reduceLT, Nat.reduceAdd, Nat.reduceMul, Nat.reduceLeDiff, Nat.le_refl, Int.natCast_zero, Int.toNat_natCast, Int.reduceToNat]
    repeat' first
      | (refine Br.intro (fun _ => ?_) (fun _ => ?_) <;> try simp -dsimp -implicitDefEqProofs only [go_sem, ↓reduceIte, Nat.reduceEqDiff, Nat.reduceLT, Nat.reduceAdd, Nat.reduceMul, Nat.reduceLeDiff, Nat.le_refl, Int.natCast_zero, Int.toNat_natCast, Int.reduceToNat, *])
      | (with_reducible refine And.intro ?_ ?_)
      | (refine sCallT_one (c_iCode00 m l o h h2 h3) ?_; try simp -dsimp -implicitDefEqProofs only [go_sem, ↓reduceIte, Nat.reduceEqDiff, Nat.reduceLT, Nat.reduceAdd, Nat.reduceMul, Nat.reduceLeDiff, Nat.le_refl, Int.natCast_zero, Int.toNat_natCast, Int.reduceToNat, *])
    all_goals first
      | omega
      | (simp_all [fewest]; done)
      | trace_state
  obtain ⟨k1, k2, k3⟩ := pkCode_zero hb
  have pk := Pk.of k1 k2
  have n6 := pk.n6
  have hF : fewest m l o = (fewestL l o, 0) := by rw [fewest, if_pos hb]
  have hl : (fewestL l o).length = o.length := by simp [fewestL]
  simp -dsimp -implicitDefEqProofs only [go_sem, ↓reduceIte, Nat.reduceEqDiff, Nat.reduceLT, Nat.reduceAdd, Nat.reduceMul, Nat.reduceLeDiff, Nat.le_refl, Int.natCast_zero, Int.toNat_natCast, Int.reduceToNat]
  repeat' first
    | (refine Br.intro (fun _ => ?_) (fun _ => ?_) <;> try simp -dsimp -implicitDefEqProofs only [go_sem, ↓reduceIte, Nat.reduceEqDiff, Nat.reduceLT, Nat.reduceAdd, Nat.reduceMul, Nat.reduceLeDiff, Nat.le_refl, Int.natCast_zero, Int.toNat_natCast, Int.reduceToNat, *])
    | (with_reducible refine And.intro ?_ ?_)
    | (refine sCallT_one (c_iCode00 m l o h h2 h3) ?_; try simp -dsimp -implicitDefEqProofs only [go_sem, ↓reduceIte, Nat.reduceEqDiff, Nat.reduceLT, Nat.reduceAdd, Nat.reduceMul, Nat.reduceLeDiff, Nat.le_refl, Int.natCast_zero, Int.toNat_natCast, Int.reduceToNat, *])
  all_goals try (first | omega | (simp_all; done))
  refine Later.up [4, 20, 21] [36, 37] [19] o.length (fun _ => True) (fun i => [(22, eI i), (9, .ref 19 0 0 i)]) (fun i => [(19, .row 0 ⟨2, true⟩ true (((fewestL l o).take i).map eP))]) trivial ?_ rfl (fun i hi _ => ?_) (fun _ => ?_)
  · simp -dsimp -implicitDefEqProofs only [go_sem, ↓reduceIte, Nat.reduceEqDiff, Nat.reduceLT, Nat.reduceAdd, Nat.reduceMul, Nat.reduceLeDiff, Nat.le_refl, Int.natCast_zero, Int.toNat_natCast, Int.reduceToNat]
    all_goals simp
  · have gi := get_some hi
    have li := lt_len hi
    have hio := pk.io i hi
    obtain ⟨hc, hce⟩ := pk.cset hio.1 hio.2
    have hst := (pk.st _ hc).1
    have gc := get_some hc
    have g0 := get_some hst
    have hi' : i < (fewestL l o).length := by omega
    have hs := take_map_snoc eP hi'
    have he : (fewestL l o)[i] = ⟨o[i], l[(o[i]).toNat][0]⟩ := by simp [fewestL, hce, List.getD_eq_getElem?_getD, hst]
    rw [he] at hs
    have hm : min i (fewestL l o).length = i := by omega
    clear he hF k1 k2 k3 pk
    simp -dsimp -implicitDefEqProofs only [pick_nil, pick_cons, look_nil, look_cons, dropB_nil, dropB_cons, inD_nil, inD_cons, inE_nil, inE_cons, or_t_l, or_f_l, Nat.reduceBEq, Nat.reduceDiv, Nat.reduceAdd, beq_self_eq_true, Bool.false_eq_true, Bool.or_false, ↓reduceIte, Nat.reduceEqDiff, List.cons_append, List.nil_append]
    simp -dsimp -implicitDefEqProofs only [go_sem, ↓reduceIte, Nat.reduceEqDiff, Nat.reduceLT, Nat.reduceAdd, Nat.reduceMul, Nat.reduceLeDiff, Nat.le_refl, Int.natCast_zero, Int.toNat_natCast, Int.reduceToNat, li, gi, gc, g0, hm]
    repeat' first
      | (refine Br.intro (fun _ => ?_) (fun _ => ?_) <;> try simp -dsimp -implicitDefEqProofs only [go_sem, ↓reduceIte, Nat.reduceEqDiff, Nat.reduceLT, Nat.reduceAdd, Nat.reduceMul, Nat.reduceLeDiff, Nat.le_refl, Int.natCast_zero, Int.toNat_natCast, Int.reduceToNat, *])
      | (with_reducible refine And.intro ?_ ?_)
      | (refine Later.draw mixed rfl ?_; try simp -dsimp -implicitDefEqProofs only [go_sem, ↓reduceIte, Nat.reduceEqDiff, Nat.reduceLT, Nat.reduceAdd, Nat.reduceMul, Nat.reduceLeDiff, Nat.le_refl, Int.natCast_zero, Int.toNat_natCast, Int.reduceToNat, li, gi, gc, g0, hm])
    all_goals first
      | omega
      | (refine ⟨?_, ?_⟩ <;> omega)
      | rfl
      | (simp; done)
      | exact hs
      | (simp_all; done)
      | trace_state
  · have ht : ((fewestL l o).map eP).take o.length = (fewestL l o).map eP := List.take_of_length_le (by simp [hl])
    have hm : min o.length (fewestL l o).length = o.length := by omega
    rw [hF]
    simp -dsimp -implicitDefEqProofs only [pick_nil, pick_cons, look_nil, look_cons, dropB_nil, dropB_cons, inD_nil, inD_cons, inE_nil, inE_cons, or_t_l, or_f_l, Nat.reduceBEq, Nat.reduceDiv, Nat.reduceAdd, beq_self_eq_true, Bool.false_eq_true, Bool.or_false, ↓reduceIte, Nat.reduceEqDiff, List.cons_append, List.nil_append]
    simp -dsimp -implicitDefEqProofs only [go_sem, ↓reduceIte, Nat.reduceEqDiff, Nat.reduceLT, Nat.reduceAdd, Nat.reduceMul, Nat.reduceLeDiff, Nat.le_refl, Int.natCast_zero, Int.toNat_natCast, Int.reduceToNat, nlt_len, ht, hm]
    repeat' (with_reducible refine And.intro ?_ ?_)
    all_goals first
      | omega
      | rfl
      | (simp; done)
      | trace_state
end Go.Vc
