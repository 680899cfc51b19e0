/-
  The contract of the law on secrets.
-/
import Derived.Test.YtlelhmbhhnokoaaDoorStamps
set_option linter.unusedVariables false
set_option linter.unusedSimpArgs false
set_option linter.unnecessarySimpa false
namespace Go.Vc
open Go.Proofs Go.Lib
set_option maxRecDepth 100000
set_option maxHeartbeats 2000000
def allN (m : MkM) : Int := cnt m m.chambers.toNat []
def secN (m : MkM) (s : List UInt8) (key : List Int) : Int × Int :=
  if isMk m = true then if fault m key = 0 then if (readS (allN m) s).2.2 = true then (((readS (allN m) s).2.1 + allN m - rankTo m key key.length).tmod (allN m), 0) else (0, 6) else (0, 2) else (0, 1)
theorem read_bound {K : Int} {s : List UInt8} (h : (readS K s).2.2 = true) : 0 ≤ (readS K s).2.1 ∧ (readS K s).2.1 < K := by
  unfold readS at h ⊢
  split at h
  · rename_i hc
    rw [if_pos hc]
    simp only [Bool.and_eq_true, decide_eq_true_eq] at h
    exact ⟨dsum_nonneg hc.2.2.2 _ (Nat.le_refl _), h.1⟩
  · cases h
theorem c_sSecretOf (m : MkM) (s : List UInt8) (key : List Int) (hs : s.length ≤ 1048576) (hk : key.length ≤ 1048576) : Fn Tryd.prog 22 [eMk m, eS s, eIs key] true (· = .tup [eI (secN m s key).1, eI (secN m s key).2]) := by
  refine Fn.of_vcN 39 [.tmp 6, .tmp 7] Tryd.func22 rfl rfl rfl rfl rfl (of_decide_eq_true rfl) ?_
  have hcode := c_l02Code m key hk
  have h10 : ((1 : Int) != 0) = true := rfl
  have h20 : ((2 : Int) != 0) = true := rfl
  have h00 : ((0 : Int) != 0) = false := rfl
  unfold secN
  rcases hm : isMk m with _ | _
  · rw [hm] at hcode
    simp only [Bool.false_eq_true, if_false] at hcode ⊢
    clear hm
    simp -dsimp -implicitDefEqProofs only [go_sem, ↓reduceIte, Nat.reduceEqDiff, Nat.reduceLT, Nat.reduceAdd, Nat.reduceMul, Nat.reduceLeDiff, Nat.le_refl, Int.natCast_zero, Int.toNat_natCast, Int.reduceToNat]
    repeat' (refine sCallT_one (hcode) ?_; try simp -dsimp -implicitDefEqProofs only [go_sem, ↓reduceIte, Nat.reduceEqDiff, Nat.reduceLT, Nat.reduceAdd, Nat.reduceMul, Nat.reduceLeDiff, Nat.le_refl, Int.natCast_zero, Int.toNat_natCast, Int.reduceToNat, *])
  · rw [hm] at hcode
    simp only [if_true] at hcode ⊢
    by_cases hf : fault m key = 0
    · rw [if_pos hf] at hcode ⊢
      have hrd := c_l28Read m hm s hs
      have hcn := c_l02Count0 m hm
      have hrk := c_l03Rank m key hm hf
      have hlt := (rank_of hf).2
      have hb := cnt_nil_bound m hm
      have hrb := read_bound (K := cnt m m.chambers.toNat []) (s := s)
      show _
      unfold allN
      generalize cnt m m.chambers.toNat [] = N at *
      generalize rankTo m key key.length = r at *
      generalize readS N s = R at *
      obtain ⟨a, n, b⟩ := R
      clear hm hf
      dsimp only at hrb hrd ⊢
      cases b with
      | false =>
        simp only [Bool.false_eq_true, if_false]
        clear hrb
        simp -dsimp -implicitDefEqProofs only [go_sem, ↓reduceIte, Nat.reduceEqDiff, Nat.reduceLT, Nat.reduceAdd, Nat.reduceMul, Nat.reduceLeDiff, Nat.le_refl, Int.natCast_zero, Int.toNat_natCast, Int.reduceToNat]
        repeat' first
          | (refine sCallT_one (hcode) ?_; try simp -dsimp -implicitDefEqProofs only [go_sem, ↓reduceIte, Nat.reduceEqDiff, Nat.reduceLT, Nat.reduceAdd, Nat.reduceMul, Nat.reduceLeDiff, Nat.le_refl, Int.natCast_zero, Int.toNat_natCast, Int.reduceToNat, *])
          | (refine sCallT_one (hrd) ?_; try simp -dsimp -implicitDefEqProofs only [go_sem, ↓reduceIte, Nat.reduceEqDiff, Nat.reduceLT, Nat.reduceAdd, Nat.reduceMul, Nat.reduceLeDiff, Nat.le_refl, Int.natCast_zero, Int.toNat_natCast, Int.reduceToNat, *])
      | true =>
        obtain ⟨b1, b2⟩ := hrb rfl
        simp only [if_true]
        simp -dsimp -implicitDefEqProofs only [go_sem, ↓reduceIte, Nat.reduceEqDiff, Nat.reduceLT, Nat.reduceAdd, Nat.reduceMul, Nat.reduceLeDiff, Nat.le_refl, Int.natCast_zero, Int.toNat_natCast, Int.reduceToNat]
        repeat' (refine sCallT_one (hcode) ?_; try simp -dsimp -implicitDefEqProofs only [go_sem, ↓reduceIte, Nat.reduceEqDiff, Nat.reduceLT, Nat.reduceAdd, Nat.reduceMul, Nat.reduceLeDiff, Nat.le_refl, Int.natCast_zero, Int.toNat_natCast, Int.reduceToNat, *])
        repeat' (refine sCallT_one (hrd) ?_; try simp -dsimp -implicitDefEqProofs only [go_sem, ↓reduceIte, Nat.reduceEqDiff, Nat.reduceLT, Nat.reduceAdd, Nat.reduceMul, Nat.reduceLeDiff, Nat.le_refl, Int.natCast_zero, Int.toNat_natCast, Int.reduceToNat, *])
        repeat' (refine sCallT_one (hcn) ?_; try simp -dsimp -implicitDefEqProofs only [go_sem, ↓reduceIte, Nat.reduceEqDiff, Nat.reduceLT, Nat.reduceAdd, Nat.reduceMul, Nat.reduceLeDiff, Nat.le_refl, Int.natCast_zero, Int.toNat_natCast, Int.reduceToNat, *])
        ((repeat' (with_reducible refine And.intro ?_ ?_)); all_goals try (first | omega | (refine ⟨?_, ?_⟩ <;> omega) | (exact rfl)))
        all_goals try (refine sCallT_one (hrk) ?_; try simp -dsimp -implicitDefEqProofs only [go_sem, ↓reduceIte, Nat.reduceEqDiff, Nat.reduceLT, Nat.reduceAdd, Nat.reduceMul, Nat.reduceLeDiff, Nat.le_refl, Int.natCast_zero, Int.toNat_natCast, Int.reduceToNat, *])
        ((repeat' (with_reducible refine And.intro ?_ ?_)); all_goals try (first | omega | (refine ⟨?_, ?_⟩ <;> omega) | (exact rfl)))
        all_goals trace_state
    · rw [if_neg hf] at hcode ⊢
      clear hm hf
      simp -dsimp -implicitDefEqProofs only [go_sem, ↓reduceIte, Nat.reduceEqDiff, Nat.reduceLT, Nat.reduceAdd, Nat.reduceMul, Nat.reduceLeDiff, Nat.le_refl, Int.natCast_zero, Int.toNat_natCast, Int.reduceToNat]
      repeat' (refine sCallT_one (hcode) ?_; try simp -dsimp -implicitDefEqProofs only [go_sem, ↓reduceIte, Nat.reduceEqDiff, Nat.reduceLT, Nat.reduceAdd, Nat.reduceMul, Nat.reduceLeDiff, Nat.le_refl, Int.natCast_zero, Int.toNat_natCast, Int.reduceToNat, *])
theorem c_iSecretOf (m : MkM) (s : List UInt8) (key : List Int) (hs : s.length ≤ 1048576) (hk : key.length ≤ 1048576) : Fn Tryd.prog 25 [eMk m, eS s, eIs key] true (· = .tup [eI (secN m s key).1, eI (secN m s key).2]) := by
  refine Fn.of_vcN 41 [.tmp 6, .tmp 7] Tryd.func25 rfl rfl rfl rfl rfl (of_decide_eq_true rfl) ?_
  have hcode := c_RankOf m key hk
  have h10 : ((1 : Int) != 0) = true := rfl
  have h20 : ((2 : Int) != 0) = true := rfl
  have h00 : ((0 : Int) != 0) = false := rfl
  unfold secN
  rcases hm : isMk m with _ | _
  · rw [hm] at hcode
    simp only [Bool.false_eq_true, if_false] at hcode ⊢
    clear hm
    simp -dsimp -implicitDefEqProofs only [go_sem, ↓reduceIte, Nat.reduceEqDiff, Nat.reduceLT, Nat.reduceAdd, Nat.reduceMul, Nat.reduceLeDiff, Nat.le_refl, Int.natCast_zero, Int.toNat_natCast, Int.reduceToNat]
    repeat' (refine sCallT_one (hcode) ?_; try simp -dsimp -implicitDefEqProofs only [go_sem, ↓reduceIte, Nat.reduceEqDiff, Nat.reduceLT, Nat.reduceAdd, Nat.reduceMul, Nat.reduceLeDiff, Nat.le_refl, Int.natCast_zero, Int.toNat_natCast, Int.reduceToNat, *])
  · rw [hm] at hcode
    simp only [if_true] at hcode ⊢
    by_cases hf : fault m key = 0
    · rw [if_pos hf] at hcode ⊢
      have hcn := c_countKeys m hm
      have hlt := (rank_of hf).2
      have hb := cnt_nil_bound m hm
      have hrd := c_readStamp (cnt m m.chambers.toNat []) s (by omega) hs
      have hrb := read_bound (K := cnt m m.chambers.toNat []) (s := s)
      have hsame := read_same (cnt m m.chambers.toNat []) s
      show _
      unfold allN
      generalize cnt m m.chambers.toNat [] = N at *
      generalize rankTo m key key.length = r at *
      generalize readS N s = R at *
      generalize readI N s = R2 at *
      obtain ⟨a, n, b⟩ := R
      obtain ⟨a2, n2, b2⟩ := R2
      clear hm hf
      dsimp only at hrb hrd hsame ⊢
      obtain ⟨hs1, hs2⟩ := hsame
      subst hs1
      cases b2 with
      | false =>
        simp only [Bool.false_eq_true, if_false]
        clear hrb hs2
        simp -dsimp -implicitDefEqProofs only [go_sem, ↓reduceIte, Nat.reduceEqDiff, Nat.reduceLT, Nat.reduceAdd, Nat.reduceMul, Nat.reduceLeDiff, Nat.le_refl, Int.natCast_zero, Int.toNat_natCast, Int.reduceToNat]
        repeat' (refine sCallT_one (hcode) ?_; try simp -dsimp -implicitDefEqProofs only [go_sem, ↓reduceIte, Nat.reduceEqDiff, Nat.reduceLT, Nat.reduceAdd, Nat.reduceMul, Nat.reduceLeDiff, Nat.le_refl, Int.natCast_zero, Int.toNat_natCast, Int.reduceToNat, *])
        repeat' (refine sCallT_one (hcn) ?_; try simp -dsimp -implicitDefEqProofs only [go_sem, ↓reduceIte, Nat.reduceEqDiff, Nat.reduceLT, Nat.reduceAdd, Nat.reduceMul, Nat.reduceLeDiff, Nat.le_refl, Int.natCast_zero, Int.toNat_natCast, Int.reduceToNat, *])
        repeat' (refine sCallT_one (hrd) ?_; try simp -dsimp -implicitDefEqProofs only [go_sem, ↓reduceIte, Nat.reduceEqDiff, Nat.reduceLT, Nat.reduceAdd, Nat.reduceMul, Nat.reduceLeDiff, Nat.le_refl, Int.natCast_zero, Int.toNat_natCast, Int.reduceToNat, *])
      | true =>
        obtain ⟨b1, b2⟩ := hrb rfl
        obtain rfl := hs2 rfl
        have e : n2 + (N : Int) - r = n2 - r + N := by omega
        rw [e]
        clear e hs2
        simp only [if_true]
        simp -dsimp -implicitDefEqProofs only [go_sem, ↓reduceIte, Nat.reduceEqDiff, Nat.reduceLT, Nat.reduceAdd, Nat.reduceMul, Nat.reduceLeDiff, Nat.le_refl, Int.natCast_zero, Int.toNat_natCast, Int.reduceToNat]
        repeat' (refine sCallT_one (hcode) ?_; try simp -dsimp -implicitDefEqProofs only [go_sem, ↓reduceIte, Nat.reduceEqDiff, Nat.reduceLT, Nat.reduceAdd, Nat.reduceMul, Nat.reduceLeDiff, Nat.le_refl, Int.natCast_zero, Int.toNat_natCast, Int.reduceToNat, *])
        repeat' (refine sCallT_one (hcn) ?_; try simp -dsimp -implicitDefEqProofs only [go_sem, ↓reduceIte, Nat.reduceEqDiff, Nat.reduceLT, Nat.reduceAdd, Nat.reduceMul, Nat.reduceLeDiff, Nat.le_refl, Int.natCast_zero, Int.toNat_natCast, Int.reduceToNat, *])
        repeat' (refine sCallT_one (hrd) ?_; try simp -dsimp -implicitDefEqProofs only [go_sem, ↓reduceIte, Nat.reduceEqDiff, Nat.reduceLT, Nat.reduceAdd, Nat.reduceMul, Nat.reduceLeDiff, Nat.le_refl, Int.natCast_zero, Int.toNat_natCast, Int.reduceToNat, *])
        ((repeat' (with_reducible refine And.intro ?_ ?_)); all_goals try (first | omega | (refine ⟨?_, ?_⟩ <;> omega) | (exact rfl)))
        all_goals trace_state
    · rw [if_neg hf] at hcode ⊢
      clear hm hf
      simp -dsimp -implicitDefEqProofs only [go_sem, ↓reduceIte, Nat.reduceEqDiff, Nat.reduceLT, Nat.reduceAdd, Nat.reduceMul, Nat.reduceLeDiff, Nat.le_refl, Int.natCast_zero, Int.toNat_natCast, Int.reduceToNat]
      repeat' (refine sCallT_one (hcode) ?_; try simp -dsimp -implicitDefEqProofs only [go_sem, ↓reduceIte, Nat.reduceEqDiff, Nat.reduceLT, Nat.reduceAdd, Nat.reduceMul, Nat.reduceLeDiff, Nat.le_refl, Int.natCast_zero, Int.toNat_natCast, Int.reduceToNat, *])
theorem c_FnExactSecretOf (m : MkM) (s : List UInt8) (key : List Int) (hkey : key.length ≤ 9223372036854775807) : Fn Tryd.prog 6 [eMk m, eS s, eIs key] true (· = eB true) := by
  refine Fn.of_vcN 50 [.tmp 6] Tryd.func6 rfl rfl rfl rfl rfl (of_decide_eq_true rfl) ?_
  rcases hq1 : decide ((s.length : Int) > 1048576) with _ | _
  · rcases hq2 : decide ((key.length : Int) > 1048576) with _ | _
    · have q1 := of_decide_eq_false hq1
      have q2 := of_decide_eq_false hq2
      have cs := c_sSecretOf m s key (by omega) (by omega)
      have ci := c_iSecretOf m s key (by omega) (by omega)
      have hk := c_toInt64S key (by omega)
      have hmk := c_toMaker m
      have heq := c_eqInt64S key key (by omega)
      have htk : List.take key.length (List.map eI key) = List.map eI key := List.take_of_length_le (by simp)
      rw [decide_eq_true rfl] at heq
      generalize secN m s key = rr at *
      obtain ⟨r, c⟩ := rr
      dsimp only at cs ci
      have hne : ∀ x : Int, (x != x) = false := fun x => bne_self_eq_false x
      have hr := hne r
      have hc := hne c
      clear hne q1 q2
      simp -dsimp -implicitDefEqProofs only [go_sem, ↓reduceIte, Nat.reduceEqDiff, Nat.reduceLT, Nat.reduceAdd, Nat.reduceMul, Nat.reduceLeDiff, Nat.le_refl, Int.natCast_zero, Int.toNat_natCast, Int.reduceToNat]
      repeat' first
        | (refine Br.intro (fun _ => ?_) (fun _ => ?_) <;> try simp -dsimp -implicitDefEqProofs only [go_sem, ↓reduceIte, Nat.reduceEqDiff, Nat.reduceLT, Nat.reduceAdd, Nat.reduceMul, Nat.reduceLeDiff, Nat.le_refl, Int.natCast_zero, Int.toNat_natCast, Int.reduceToNat, *])
        | (with_reducible refine And.intro ?_ ?_)
        | (refine sCallT_one (hmk) ?_; try simp -dsimp -implicitDefEqProofs only [go_sem, ↓reduceIte, Nat.reduceEqDiff, Nat.reduceLT, Nat.reduceAdd, Nat.reduceMul, Nat.reduceLeDiff, Nat.le_refl, Int.natCast_zero, Int.toNat_natCast, Int.reduceToNat, *])
        | (refine sCallT_one (hk) ?_; try simp -dsimp -implicitDefEqProofs only [go_sem, ↓reduceIte, Nat.reduceEqDiff, Nat.reduceLT, Nat.reduceAdd, Nat.reduceMul, Nat.reduceLeDiff, Nat.le_refl, Int.natCast_zero, Int.toNat_natCast, Int.reduceToNat, *])
        | (refine sCallT_one (heq) ?_; try simp -dsimp -implicitDefEqProofs only [go_sem, ↓reduceIte, Nat.reduceEqDiff, Nat.reduceLT, Nat.reduceAdd, Nat.reduceMul, Nat.reduceLeDiff, Nat.le_refl, Int.natCast_zero, Int.toNat_natCast, Int.reduceToNat, *])
        | (refine sCallT_one (cs) ?_; try simp -dsimp -implicitDefEqProofs only [go_sem, ↓reduceIte, Nat.reduceEqDiff, Nat.reduceLT, Nat.reduceAdd, Nat.reduceMul, Nat.reduceLeDiff, Nat.le_refl, Int.natCast_zero, Int.toNat_natCast, Int.reduceToNat, *])
        | (refine sCallT_one (ci) ?_; try simp -dsimp -implicitDefEqProofs only [go_sem, ↓reduceIte, Nat.reduceEqDiff, Nat.reduceLT, Nat.reduceAdd, Nat.reduceMul, Nat.reduceLeDiff, Nat.le_refl, Int.natCast_zero, Int.toNat_natCast, Int.reduceToNat, *])
        | (refine sCallX_one (hmk) ?_; try simp -dsimp -implicitDefEqProofs only [go_sem, ↓reduceIte, Nat.reduceEqDiff, Nat.reduceLT, Nat.reduceAdd, Nat.reduceMul, Nat.reduceLeDiff, Nat.le_refl, Int.natCast_zero, Int.toNat_natCast, Int.reduceToNat, *])
        | (refine sCallX_one (hk) ?_; try simp -dsimp -implicitDefEqProofs only [go_sem, ↓reduceIte, Nat.reduceEqDiff, Nat.reduceLT, Nat.reduceAdd, Nat.reduceMul, Nat.reduceLeDiff, Nat.le_refl, Int.natCast_zero, Int.toNat_natCast, Int.reduceToNat, *])
        | (refine sCallX_one (heq) ?_; try simp -dsimp -implicitDefEqProofs only [go_sem, ↓reduceIte, Nat.reduceEqDiff, Nat.reduceLT, Nat.reduceAdd, Nat.reduceMul, Nat.reduceLeDiff, Nat.le_refl, Int.natCast_zero, Int.toNat_natCast, Int.reduceToNat, *])
        | (refine sCallX_one (cs) ?_; try simp -dsimp -implicitDefEqProofs only [go_sem, ↓reduceIte, Nat.reduceEqDiff, Nat.reduceLT, Nat.reduceAdd, Nat.reduceMul, Nat.reduceLeDiff, Nat.le_refl, Int.natCast_zero, Int.toNat_natCast, Int.reduceToNat, *])
        | (refine sCallX_one (ci) ?_; try simp -dsimp -implicitDefEqProofs only [go_sem, ↓reduceIte, Nat.reduceEqDiff, Nat.reduceLT, Nat.reduceAdd, Nat.reduceMul, Nat.reduceLeDiff, Nat.le_refl, Int.natCast_zero, Int.toNat_natCast, Int.reduceToNat, *])
        | (refine Later.draw mixed rfl ?_; try simp -dsimp -implicitDefEqProofs only [go_sem, ↓reduceIte, Nat.reduceEqDiff, Nat.reduceLT, Nat.reduceAdd, Nat.reduceMul, Nat.reduceLeDiff, Nat.le_refl, Int.natCast_zero, Int.toNat_natCast, Int.reduceToNat, *])
      all_goals first
        | omega | (refine ⟨?_, ?_⟩ <;> omega) | (simp; done) | (simp; omega)
        | rfl
        | trace_state
    · simp -dsimp -implicitDefEqProofs only [go_sem, ↓reduceIte, Nat.reduceEqDiff, Nat.reduceLT, Nat.reduceAdd, Nat.reduceMul, Nat.reduceLeDiff, Nat.le_refl, Int.natCast_zero, Int.toNat_natCast, Int.reduceToNat, hq1, hq2]
  · simp -dsimp -implicitDefEqProofs only [go_sem, ↓reduceIte, Nat.reduceEqDiff, Nat.reduceLT, Nat.reduceAdd, Nat.reduceMul, Nat.reduceLeDiff, Nat.le_refl, Int.natCast_zero, Int.toNat_natCast, Int.reduceToNat, hq1]
end Go.Vc
