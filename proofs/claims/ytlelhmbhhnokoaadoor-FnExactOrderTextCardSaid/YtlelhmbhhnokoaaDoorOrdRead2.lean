/-
  Contracts: orders read out of a text, orders told as a text.
-/
import Derived.Test.YtlelhmbhhnokoaaDoorOrdRead
set_option linter.unusedVariables false
set_option linter.unusedSimpArgs false
set_option linter.unnecessarySimpa false
namespace Go.Vc
open Go.Proofs Go.Lib
set_option maxRecDepth 100000
def toldO (m : MkM) (t : List (List Int)) (os : List ItM) : List UInt8 × Int := if ordCode m t os = 0 then (ordText os, 0) else ([], ordCode m t os)
theorem ordCode_zero2 {m : MkM} {t : List (List Int)} {os : List ItM} (h : ordCode m t os = 0) : isSy m t = true ∧ isOrd t os = true := by
  unfold ordCode at h
  split at h
  · split at h
    · exact ⟨‹_›, ‹_›⟩
    · cases h
  · cases h
theorem ord_all {m : MkM} {t : List (List Int)} {os : List ItM} (k1 : isSy m t = true) (k2 : isOrd t os = true) : ∀ x ∈ os, ItOk x := by
  obtain ⟨n1, n2, n3, n4, n5⟩ := isSy_num k1
  exact isOrd_ok k2 (by omega) (by omega)
theorem isOrd_20 {t : List (List Int)} {os : List ItM} (h : isOrd t os = true) : os.length ≤ 1048576 := by
  simp only [isOrd, Bool.and_eq_true, decide_eq_true_eq] at h
  omega
theorem c_iOrderText (m : MkM) (t : List (List Int)) (h : t.length ≤ 1048576) (h2 : ∀ x ∈ t, x.length ≤ 1048576) (os : List ItM) (h3 : os.length ≤ 1048576) : Fn Tryd.prog 14 [eSy m t, eIts os] true (· = .tup [eS (toldO m t os).1, eI (toldO m t os).2]) := by
  refine Fn.of_vcN 15 [.tmp 4, .tmp 5] Tryd.func14 rfl rfl rfl rfl rfl (of_decide_eq_true rfl) ?_
  have hcode := c_orderCode m t os h h2 h3
  rcases hb : (ordCode m t os == 0) with _ | _
  · have hF : toldO m t os = ([], ordCode m t os) := by rw [toldO, if_neg (by simpa using hb)]
    have hb2 : (ordCode m t os != 0) = true := by simp [bne, hb]
    rw [hF]
    generalize ordCode m t os = c at *
    simp -dsimp -implicitDefEqProofs only [go_sem, ↓reduceIte, Nat.reduceEqDiff, Nat.reduceLT, Nat.reduceAdd, Nat.reduceMul, Nat.reduceLeDiff, Nat.le_refl, Int.natCast_zero, Int.toNat_natCast, Int.reduceToNat]
    (refine sCallT_one (hcode) ?_; try simp -dsimp -implicitDefEqProofs only [go_sem, ↓reduceIte, Nat.reduceEqDiff, Nat.reduceLT, Nat.reduceAdd, Nat.reduceMul, Nat.reduceLeDiff, Nat.le_refl, Int.natCast_zero, Int.toNat_natCast, Int.reduceToNat, *])
    all_goals try simp -dsimp -implicitDefEqProofs only [go_sem, ↓reduceIte, Nat.reduceEqDiff, Nat.reduceLT, Nat.reduceAdd, Nat.reduceMul, Nat.reduceLeDiff, Nat.le_refl, Int.natCast_zero, Int.toNat_natCast, Int.reduceToNat, hb, hb2]
    all_goals (first | omega | (refine ⟨?_, ?_⟩ <;> omega) | (exact rfl) | (simp; done) | trace_state)
  · have hb0 : ordCode m t os = 0 := by simpa using hb
    obtain ⟨k1, k2⟩ := ordCode_zero2 hb0
    have hF : toldO m t os = (ordText os, 0) := by rw [toldO, if_pos hb0]
    rw [hF]
    rw [hb0] at hcode
    simp -dsimp -implicitDefEqProofs only [go_sem, ↓reduceIte, Nat.reduceEqDiff, Nat.reduceLT, Nat.reduceAdd, Nat.reduceMul, Nat.reduceLeDiff, Nat.le_refl, Int.natCast_zero, Int.toNat_natCast, Int.reduceToNat]
    (refine sCallT_one (hcode) ?_; try simp -dsimp -implicitDefEqProofs only [go_sem, ↓reduceIte, Nat.reduceEqDiff, Nat.reduceLT, Nat.reduceAdd, Nat.reduceMul, Nat.reduceLeDiff, Nat.le_refl, Int.natCast_zero, Int.toNat_natCast, Int.reduceToNat, *])
    all_goals try (refine sCallT_one (c_orderText os h3 (fun x hx => (ord_all k1 k2 x hx).i64)) ?_; try simp -dsimp -implicitDefEqProofs only [go_sem, ↓reduceIte, Nat.reduceEqDiff, Nat.reduceLT, Nat.reduceAdd, Nat.reduceMul, Nat.reduceLeDiff, Nat.le_refl, Int.natCast_zero, Int.toNat_natCast, Int.reduceToNat, *])
    all_goals (first | omega | (refine ⟨?_, ?_⟩ <;> omega) | (exact rfl) | (simp; done) | trace_state)
theorem c_sOrderText (m : MkM) (t : List (List Int)) (h : t.length ≤ 1048576) (h2 : ∀ x ∈ t, x.length ≤ 1048576) (os : List ItM) (h3 : os.length ≤ 1048576) : Fn Tryd.prog 11 [eSy m t, eIts os] true (· = .tup [eS (toldO m t os).1, eI (toldO m t os).2]) := by
  refine Fn.of_vcN 15 [.tmp 4, .tmp 5] Tryd.func11 rfl rfl rfl rfl rfl (of_decide_eq_true rfl) ?_
  have hcode := c_l29System m t os h h2 h3
  rcases hb : (ordCode m t os == 0) with _ | _
  · have hF : toldO m t os = ([], ordCode m t os) := by rw [toldO, if_neg (by simpa using hb)]
    have hb2 : (ordCode m t os != 0) = true := by simp [bne, hb]
    rw [hF]
    generalize ordCode m t os = c at *
    simp -dsimp -implicitDefEqProofs only [go_sem, ↓reduceIte, Nat.reduceEqDiff, Nat.reduceLT, Nat.reduceAdd, Nat.reduceMul, Nat.reduceLeDiff, Nat.le_refl, Int.natCast_zero, Int.toNat_natCast, Int.reduceToNat]
    (refine sCallT_one (hcode) ?_; try simp -dsimp -implicitDefEqProofs only [go_sem, ↓reduceIte, Nat.reduceEqDiff, Nat.reduceLT, Nat.reduceAdd, Nat.reduceMul, Nat.reduceLeDiff, Nat.le_refl, Int.natCast_zero, Int.toNat_natCast, Int.reduceToNat, *])
    all_goals try simp -dsimp -implicitDefEqProofs only [go_sem, ↓reduceIte, Nat.reduceEqDiff, Nat.reduceLT, Nat.reduceAdd, Nat.reduceMul, Nat.reduceLeDiff, Nat.le_refl, Int.natCast_zero, Int.toNat_natCast, Int.reduceToNat, hb, hb2]
    all_goals (first | omega | (refine ⟨?_, ?_⟩ <;> omega) | (exact rfl) | (simp; done) | trace_state)
  · have hb0 : ordCode m t os = 0 := by simpa using hb
    obtain ⟨k1, k2⟩ := ordCode_zero2 hb0
    have hF : toldO m t os = (ordText os, 0) := by rw [toldO, if_pos hb0]
    rw [hF]
    rw [hb0] at hcode
    simp -dsimp -implicitDefEqProofs only [go_sem, ↓reduceIte, Nat.reduceEqDiff, Nat.reduceLT, Nat.reduceAdd, Nat.reduceMul, Nat.reduceLeDiff, Nat.le_refl, Int.natCast_zero, Int.toNat_natCast, Int.reduceToNat]
    (refine sCallT_one (hcode) ?_; try simp -dsimp -implicitDefEqProofs only [go_sem, ↓reduceIte, Nat.reduceEqDiff, Nat.reduceLT, Nat.reduceAdd, Nat.reduceMul, Nat.reduceLeDiff, Nat.le_refl, Int.natCast_zero, Int.toNat_natCast, Int.reduceToNat, *])
    all_goals try (refine sCallT_one (c_l29Text os h3 (ord_all k1 k2)) ?_; try simp -dsimp -implicitDefEqProofs only [go_sem, ↓reduceIte, Nat.reduceEqDiff, Nat.reduceLT, Nat.reduceAdd, Nat.reduceMul, Nat.reduceLeDiff, Nat.le_refl, Int.natCast_zero, Int.toNat_natCast, Int.reduceToNat, *])
    all_goals (first | omega | (refine ⟨?_, ?_⟩ <;> omega) | (exact rfl) | (simp; done) | trace_state)
end Go.Vc
