/-
  Contracts of the functions on picking: many picks.
-/
import Derived.Test.YtponkoaomcgohaaPick5
set_option linter.unusedVariables false
set_option linter.unusedSimpArgs false
set_option linter.unnecessarySimpa false
namespace Go.Vc
open Go.Proofs
set_option maxRecDepth 100000
def pickAll (m : MkM) (l : List (List Int)) (o : List Int) (ps : List PkM) : List Int × Int × Int :=
  if pksCode m l o [] ps = 0 then (rowsL (o.take (runS l o ps ps.length).n), if (runS l o ps ps.length).n < o.length then -1 else madeS l o ps, 0) else ([], 0, pksCode m l o [] ps)
def keyFrom (m : MkM) (l : List (List Int)) (o : List Int) (ps : List PkM) : List Int × Int :=
  if pksCode m l o [] ps = 0 then (if (runS l o ps ps.length).n < o.length then ([], 5) else ((runS l o ps ps.length).cuts, 0)) else ([], pksCode m l o [] ps)
def fallsOf (m : MkM) (l : List (List Int)) (o : List Int) (ps : List PkM) : Int × Int :=
  if pksCode m l o [] ps = 0 then ((runS l o ps ps.length).falls, 0) else (0, pksCode m l o [] ps)
theorem pksCode_zero {m : MkM} {l : List (List Int)} {o s : List Int} {ps : List PkM} (h : pksCode m l o s ps = 0) : pkCode m l o s = 0 ∧ ps.all (pickOk m) = true := by
  unfold pksCode at h
  split at h
  · rename_i h1
    split at h
    · rename_i h2; exact ⟨h1, h2⟩
    · omega
  · contradiction
theorem madeS_le (l : List (List Int)) (o : List Int) (ps : List PkM) : madeS l o ps ≤ ps.length := by
  unfold madeS
  exact Nat.le_trans (List.length_filter_le _ _) (by simp)
theorem c_iCodeP (m : MkM) (l : List (List Int)) (o : List Int) (ps : List PkM) (h : l.length ≤ 1048576) (h2 : ∀ x ∈ l, x.length ≤ 1048576) (h3 : o.length ≤ 1048576) (h5 : ps.length ≤ 1048576) : Fn Try.prog 54 [eMk m, eLk l, eIs o, eNil, ePs ps] true (· = eI (pksCode m l o [] ps)) :=
  (c_pickCode m l o [] ps h h2 h3 (by simp) h5).subs (.cons (.refl _) (.cons (.refl _) (.cons (.refl _) (.cons (.nil _) (.cons (.refl _) .nil)))))
theorem c_sPickAll (m : MkM) (l : List (List Int)) (o : List Int) (ps : List PkM) (h : l.length ≤ 1048576) (h2 : ∀ x ∈ l, x.length ≤ 1048576) (h3 : o.length ≤ 1048576) (h5 : ps.length ≤ 1048576) : Fn Try.prog 39 [eMk m, eLk l, eIs o, ePs ps] true (· = .tup [eIs (pickAll m l o ps).1, eI (pickAll m l o ps).2.1, eI (pickAll m l o ps).2.2]) := by
  refine Fn.of_vcN 42 [.tmp 8, .tmp 9, .tmp 10] Try.func39 rfl rfl rfl rfl rfl (of_decide_eq_true rfl) ?_
  by_cases hb : pksCode m l o [] ps = 0
  rotate_left
  · have hF : pickAll m l o ps = ([], 0, pksCode m l o [] ps) := by rw [pickAll, if_neg hb]
    rw [hF]
    clear hF
    simp -dsimp -implicitDefEqProofs only [go_sem, ↓reduceIte, Nat.reduceEqDiff, Nat.reduceLT, Nat.reduceAdd, Nat.reduceMul, Nat.reduceLeDiff, Nat.le_refl, Int.natCast_zero, Int.toNat_natCast, Int.reduceToNat]
    repeat' first
      | (refine Br.intro (fun _ => ?_) (fun _ => ?_) <;> try simp -dsimp -implicitDefEqProofs only [go_sem, ↓reduceIte, Nat.reduceEqDiff, Nat.reduceLT, Nat.reduceAdd, Nat.reduceMul, Nat.reduceLeDiff, Nat.le_refl, Int.natCast_zero, Int.toNat_natCast, Int.reduceToNat, *])
      | (with_reducible refine And.intro ?_ ?_)
      | (refine sCallT_one (c_l32Picks m l o ps h h2 h3 h5) ?_; try simp -dsimp -implicitDefEqProofs only [go_sem, ↓reduceIte, Nat.reduceEqDiff, Nat.reduceLT, Nat.reduceAdd, Nat.reduceMul, Nat.reduceLeDiff, Nat.le_refl, Int.natCast_zero, Int.toNat_natCast, Int.reduceToNat, *])
    all_goals first
      | omega
      | (simp_all; done)
      | trace_state
  obtain ⟨hb1, hp⟩ := pksCode_zero hb
  obtain ⟨k1, k2, k3⟩ := pkCode_zero hb1
  have pk := Pk.of k1 k2
  have n6 := pk.n6
  have hF : pickAll m l o ps = (rowsL (o.take (runS l o ps ps.length).n), if (runS l o ps ps.length).n < o.length then -1 else (madeS l o ps : Int), 0) := by rw [pickAll, if_pos hb]
  have hrun := c_l32Run m l o ps pk h2 hp h5
  have hn := runS_n l o ps ps.length
  have hnn := pk.nn (runS l o ps ps.length).n
  have hmd := madeS_le l o ps
  rw [hF]
  unfold runR at hrun
  clear hF k1 k2 k3 pk hp hb1
  generalize runS l o ps ps.length = R at *
  generalize madeS l o ps = M at *
  simp -dsimp -implicitDefEqProofs only [go_sem, ↓reduceIte, Nat.reduceEqDiff, Nat.reduceLT, Nat.reduceAdd, Nat.reduceMul, Nat.reduceLeDiff, Nat.le_refl, Int.natCast_zero, Int.toNat_natCast, Int.reduceToNat]
  repeat' first
    | (refine Br.intro (fun _ => ?_) (fun _ => ?_) <;> try simp -dsimp -implicitDefEqProofs only [go_sem, ↓reduceIte, Nat.reduceEqDiff, Nat.reduceLT, Nat.reduceAdd, Nat.reduceMul, Nat.reduceLeDiff, Nat.le_refl, Int.natCast_zero, Int.toNat_natCast, Int.reduceToNat, *])
    | (with_reducible refine And.intro ?_ ?_)
    | (refine sCallT_one (c_l32Picks m l o ps h h2 h3 h5) ?_; try simp -dsimp -implicitDefEqProofs only [go_sem, ↓reduceIte, Nat.reduceEqDiff, Nat.reduceLT, Nat.reduceAdd, Nat.reduceMul, Nat.reduceLeDiff, Nat.le_refl, Int.natCast_zero, Int.toNat_natCast, Int.reduceToNat, *])
    | (refine sCallT_one (hrun) ?_; try simp -dsimp -implicitDefEqProofs only [go_sem, ↓reduceIte, Nat.reduceEqDiff, Nat.reduceLT, Nat.reduceAdd, Nat.reduceMul, Nat.reduceLeDiff, Nat.le_refl, Int.natCast_zero, Int.toNat_natCast, Int.reduceToNat, *])
    | (rw [← List.map_take]; refine sCallT_one (c_l18Different (o.take R.n) (by simp; omega) hnn) ?_; try simp -dsimp -implicitDefEqProofs only [go_sem, ↓reduceIte, Nat.reduceEqDiff, Nat.reduceLT, Nat.reduceAdd, Nat.reduceMul, Nat.reduceLeDiff, Nat.le_refl, Int.natCast_zero, Int.toNat_natCast, Int.reduceToNat, *])
  all_goals first
    | omega
    | (refine ⟨?_, ?_⟩ <;> omega)
    | rfl
    | (simp; done)
    | (rename_i hx; rw [if_pos (by have := of_decide_eq_true hx; omega)]; done)
    | (rename_i hx; rw [if_neg (by have := of_decide_eq_false hx; omega)]; done)
    | (simp_all; done)
    | trace_state
theorem c_sKeyFrom (m : MkM) (l : List (List Int)) (o : List Int) (ps : List PkM) (h : l.length ≤ 1048576) (h2 : ∀ x ∈ l, x.length ≤ 1048576) (h3 : o.length ≤ 1048576) (h5 : ps.length ≤ 1048576) : Fn Try.prog 37 [eMk m, eLk l, eIs o, ePs ps] true (· = .tup [eIs (keyFrom m l o ps).1, eI (keyFrom m l o ps).2]) := by
  refine Fn.of_vcN 37 [.tmp 8, .tmp 9] Try.func37 rfl rfl rfl rfl rfl (of_decide_eq_true rfl) ?_
  by_cases hb : pksCode m l o [] ps = 0
  rotate_left
  · have hF : keyFrom m l o ps = ([], pksCode m l o [] ps) := by rw [keyFrom, if_neg hb]
    rw [hF]
    clear hF
    simp -dsimp -implicitDefEqProofs only [go_sem, ↓reduceIte, Nat.reduceEqDiff, Nat.reduceLT, Nat.reduceAdd, Nat.reduceMul, Nat.reduceLeDiff, Nat.le_refl, Int.natCast_zero, Int.toNat_natCast, Int.reduceToNat]
    repeat' first
      | (refine Br.intro (fun _ => ?_) (fun _ => ?_) <;> try simp -dsimp -implicitDefEqProofs only [go_sem, ↓reduceIte, Nat.reduceEqDiff, Nat.reduceLT, Nat.reduceAdd, Nat.reduceMul, Nat.reduceLeDiff, Nat.le_refl, Int.natCast_zero, Int.toNat_natCast, Int.reduceToNat, *])
      | (with_reducible refine And.intro ?_ ?_)
      | (refine sCallT_one (c_l32Picks m l o ps h h2 h3 h5) ?_; try simp -dsimp -implicitDefEqProofs only [go_sem, ↓reduceIte, Nat.reduceEqDiff, Nat.reduceLT, Nat.reduceAdd, Nat.reduceMul, Nat.reduceLeDiff, Nat.le_refl, Int.natCast_zero, Int.toNat_natCast, Int.reduceToNat, *])
    all_goals first
      | omega
      | (simp_all; done)
      | trace_state
  obtain ⟨hb1, hp⟩ := pksCode_zero hb
  obtain ⟨k1, k2, k3⟩ := pkCode_zero hb1
  have pk := Pk.of k1 k2
  have hF : keyFrom m l o ps = if (runS l o ps ps.length).n < o.length then ([], 5) else ((runS l o ps ps.length).cuts, 0) := by rw [keyFrom, if_pos hb]
  have hrun := c_l32Run m l o ps pk h2 hp h5
  have hmd := madeS_le l o ps
  have hcu := runS_cuts l o ps ps.length
  unfold runR at hrun
  clear k1 k2 k3 pk hp hb1
  generalize runS l o ps ps.length = R at *
  generalize madeS l o ps = M at *
  rcases Nat.lt_or_ge R.n o.length with hlt | hge
  · rw [if_pos hlt] at hF
    rw [hF]
    clear hF
    have li := lt_len hlt
    simp -dsimp -implicitDefEqProofs only [go_sem, ↓reduceIte, Nat.reduceEqDiff, Nat.reduceLT, Nat.reduceAdd, Nat.reduceMul, Nat.reduceLeDiff, Nat.le_refl, Int.natCast_zero, Int.toNat_natCast, Int.reduceToNat]
    repeat' first
      | (refine Br.intro (fun _ => ?_) (fun _ => ?_) <;> try simp -dsimp -implicitDefEqProofs only [go_sem, ↓reduceIte, Nat.reduceEqDiff, Nat.reduceLT, Nat.reduceAdd, Nat.reduceMul, Nat.reduceLeDiff, Nat.le_refl, Int.natCast_zero, Int.toNat_natCast, Int.reduceToNat, *])
      | (with_reducible refine And.intro ?_ ?_)
      | (refine sCallT_one (c_l32Picks m l o ps h h2 h3 h5) ?_; try simp -dsimp -implicitDefEqProofs only [go_sem, ↓reduceIte, Nat.reduceEqDiff, Nat.reduceLT, Nat.reduceAdd, Nat.reduceMul, Nat.reduceLeDiff, Nat.le_refl, Int.natCast_zero, Int.toNat_natCast, Int.reduceToNat, *])
      | (refine sCallT_one (hrun) ?_; try simp -dsimp -implicitDefEqProofs only [go_sem, ↓reduceIte, Nat.reduceEqDiff, Nat.reduceLT, Nat.reduceAdd, Nat.reduceMul, Nat.reduceLeDiff, Nat.le_refl, Int.natCast_zero, Int.toNat_natCast, Int.reduceToNat, *])
    all_goals first
      | omega
      | rfl
      | (simp; done)
      | (simp_all; done)
      | trace_state
  · rw [if_neg (by omega)] at hF
    rw [hF]
    clear hF
    have li : decide ((R.n : Int) < o.length) = false := by simp; omega
    simp -dsimp -implicitDefEqProofs only [go_sem, ↓reduceIte, Nat.reduceEqDiff, Nat.reduceLT, Nat.reduceAdd, Nat.reduceMul, Nat.reduceLeDiff, Nat.le_refl, Int.natCast_zero, Int.toNat_natCast, Int.reduceToNat]
    repeat' first
      | (refine Br.intro (fun _ => ?_) (fun _ => ?_) <;> try simp -dsimp -implicitDefEqProofs only [go_sem, ↓reduceIte, Nat.reduceEqDiff, Nat.reduceLT, Nat.reduceAdd, Nat.reduceMul, Nat.reduceLeDiff, Nat.le_refl, Int.natCast_zero, Int.toNat_natCast, Int.reduceToNat, *])
      | (with_reducible refine And.intro ?_ ?_)
      | (refine sCallT_one (c_l32Picks m l o ps h h2 h3 h5) ?_; try simp -dsimp -implicitDefEqProofs only [go_sem, ↓reduceIte, Nat.reduceEqDiff, Nat.reduceLT, Nat.reduceAdd, Nat.reduceMul, Nat.reduceLeDiff, Nat.le_refl, Int.natCast_zero, Int.toNat_natCast, Int.reduceToNat, *])
      | (refine sCallT_one (hrun) ?_; try simp -dsimp -implicitDefEqProofs only [go_sem, ↓reduceIte, Nat.reduceEqDiff, Nat.reduceLT, Nat.reduceAdd, Nat.reduceMul, Nat.reduceLeDiff, Nat.le_refl, Int.natCast_zero, Int.toNat_natCast, Int.reduceToNat, *])
    all_goals first
      | omega
      | rfl
      | (rw [← hcu, take_map_len]; done)
      | (simp; done)
      | (simp_all; done)
      | trace_state
theorem c_sFallsOf (m : MkM) (l : List (List Int)) (o : List Int) (ps : List PkM) (h : l.length ≤ 1048576) (h2 : ∀ x ∈ l, x.length ≤ 1048576) (h3 : o.length ≤ 1048576) (h5 : ps.length ≤ 1048576) : Fn Try.prog 34 [eMk m, eLk l, eIs o, ePs ps] true (· = .tup [eI (fallsOf m l o ps).1, eI (fallsOf m l o ps).2]) := by
  refine Fn.of_vcN 33 [.tmp 8, .tmp 9] Try.func34 rfl rfl rfl rfl rfl (of_decide_eq_true rfl) ?_
  by_cases hb : pksCode m l o [] ps = 0
  rotate_left
  · have hF : fallsOf m l o ps = (0, pksCode m l o [] ps) := by rw [fallsOf, if_neg hb]
    rw [hF]
    clear hF
    simp -dsimp -implicitDefEqProofs only [go_sem, ↓reduceIte, Nat.reduceEqDiff, Nat.reduceLT, Nat.reduceAdd, Nat.reduceMul, Nat.reduceLeDiff, Nat.le_refl, Int.natCast_zero, Int.toNat_natCast, Int.reduceToNat]
    repeat' first
      | (refine Br.intro (fun _ => ?_) (fun _ => ?_) <;> try simp -dsimp -implicitDefEqProofs only [go_sem, ↓reduceIte, Nat.reduceEqDiff, Nat.reduceLT, Nat.reduceAdd, Nat.reduceMul, Nat.reduceLeDiff, Nat.le_refl, Int.natCast_zero, Int.toNat_natCast, Int.reduceToNat, *])
      | (with_reducible refine And.intro ?_ ?_)
      | (refine sCallT_one (c_l32Picks m l o ps h h2 h3 h5) ?_; try simp -dsimp -implicitDefEqProofs only [go_sem, ↓reduceIte, Nat.reduceEqDiff, Nat.reduceLT, Nat.reduceAdd, Nat.reduceMul, Nat.reduceLeDiff, Nat.le_refl, Int.natCast_zero, Int.toNat_natCast, Int.reduceToNat, *])
    all_goals first
      | omega
      | (simp_all; done)
      | trace_state
  obtain ⟨hb1, hp⟩ := pksCode_zero hb
  obtain ⟨k1, k2, k3⟩ := pkCode_zero hb1
  have pk := Pk.of k1 k2
  have hF : fallsOf m l o ps = ((runS l o ps ps.length).falls, 0) := by rw [fallsOf, if_pos hb]
  have hrun := c_l32Run m l o ps pk h2 hp h5
  unfold runR at hrun
  rw [hF]
  clear hF k1 k2 k3 pk hp hb1
  generalize runS l o ps ps.length = R at *
  generalize madeS l o ps = M at *
  simp -dsimp -implicitDefEqProofs only [go_sem, ↓reduceIte, Nat.reduceEqDiff, Nat.reduceLT, Nat.reduceAdd, Nat.reduceMul, Nat.reduceLeDiff, Nat.le_refl, Int.natCast_zero, Int.toNat_natCast, Int.reduceToNat]
  repeat' first
    | (refine Br.intro (fun _ => ?_) (fun _ => ?_) <;> try simp -dsimp -implicitDefEqProofs only [go_sem, ↓reduceIte, Nat.reduceEqDiff, Nat.reduceLT, Nat.reduceAdd, Nat.reduceMul, Nat.reduceLeDiff, Nat.le_refl, Int.natCast_zero, Int.toNat_natCast, Int.reduceToNat, *])
    | (with_reducible refine And.intro ?_ ?_)
    | (refine sCallT_one (c_l32Picks m l o ps h h2 h3 h5) ?_; try simp -dsimp -implicitDefEqProofs only [go_sem, ↓reduceIte, Nat.reduceEqDiff, Nat.reduceLT, Nat.reduceAdd, Nat.reduceMul, Nat.reduceLeDiff, Nat.le_refl, Int.natCast_zero, Int.toNat_natCast, Int.reduceToNat, *])
    | (refine sCallT_one (hrun) ?_; try simp -dsimp -implicitDefEqProofs only [go_sem, ↓reduceIte, Nat.reduceEqDiff, Nat.reduceLT, Nat.reduceAdd, Nat.reduceMul, Nat.reduceLeDiff, Nat.le_refl, Int.natCast_zero, Int.toNat_natCast, Int.reduceToNat, *])
  all_goals first
    | omega
    | rfl
    | (simp; done)
    | (simp_all; done)
    | trace_state
end Go.Vc
