import Derived.Test.YtlelhmbhhnokoaaDoorKeysAll
import Derived.Test.YtlelhmbhhnokoaaDoorStr
/-
  Stamps: their texts, and how they are read.
-/
set_option linter.unusedVariables false
set_option linter.unusedSimpArgs false
set_option linter.unnecessarySimpa false
namespace Go.Vc
open Go.Proofs Go.Lib
set_option maxRecDepth 100000
set_option maxHeartbeats 2000000
/- ---- plain -/
def padS (w : Nat) (s : List UInt8) : List UInt8 := List.replicate (w - s.length) 48 ++ s
def chk (series n : Int) : Int := (100 * n + series).tmod 97
def stampS (w : Nat) (series n : Int) : List UInt8 := [UInt8.ofNat (65 + series).toNat] ++ padS w (itoa n) ++ [45] ++ padS 2 (itoa (chk series n))
def dsum (s : List UInt8) : Nat → Int
  | 0 => 0
  | i + 1 => dsum s i * 10 + ((s.getD (i + 1) 0).toNat : Int) - 48
theorem dsum_bound (s : List UInt8) : ∀ i, -(29 * 10 ^ i - 29) ≤ dsum s i ∧ dsum s i ≤ 29 * 10 ^ i - 29
  | 0 => by simp [dsum]
  | i + 1 => by
    have ih := dsum_bound s i
    have hb := (s.getD (i + 1) 0).toNat_lt
    have e : (10 : Int) ^ (i + 1) = 10 * 10 ^ i := by rw [Int.pow_succ, Int.mul_comm]
    simp only [dsum]
    rw [e]
    generalize (s.getD (i + 1) 0).toNat = x at *
    generalize (10 : Int) ^ i = p at *
    omega
def readI (K : Int) (s : List UInt8) : Int × Int × Bool :=
  if s.length = (itoa K).length + 4 then
    if isIn ((s.getD 0 0).toNat - 65) 0 25 = true ∧ isIn (dsum s (itoa K).length) 0 (K - 1) = true ∧ stampS (itoa K).length ((s.getD 0 0).toNat - 65) (dsum s (itoa K).length) = s then ((s.getD 0 0).toNat - 65, dsum s (itoa K).length, true) else (0, 0, false)
  else (0, 0, false)
def isDg (b : UInt8) : Bool := decide (48 ≤ b.toNat) && decide (b.toNat ≤ 57)
def dgs (s : List UInt8) (w : Nat) : Bool := (List.range w).all fun i => isDg (s.getD (i + 1) 0)
def readS (K : Int) (s : List UInt8) : Int × Int × Bool :=
  if s.length = (itoa K).length + 4 ∧ 65 ≤ (s.getD 0 0).toNat ∧ (s.getD 0 0).toNat ≤ 90 ∧ dgs s (itoa K).length = true then
    ((s.getD 0 0).toNat - 65, dsum s (itoa K).length, decide (dsum s (itoa K).length < K) && decide (stampS (itoa K).length ((s.getD 0 0).toNat - 65) (dsum s (itoa K).length) = s))
  else (0, 0, false)
theorem dec_len_le : ∀ (k n : Nat), n < 10 ^ (k + 1) → (decDigits n).length ≤ k + 1
  | 0, n, h => by rw [dec_low (by simpa using h)]; simp
  | k + 1, n, h => by
    by_cases hn : n < 10
    · rw [dec_low hn]; simp
    · rw [dec_high hn, List.length_append]
      have := dec_len_le k (n / 10) (by rw [Nat.pow_succ] at h; omega)
      simp; omega
theorem dec_mono : ∀ (n m : Nat), m ≤ n → (decDigits m).length ≤ (decDigits n).length := by
  intro n
  induction n using Nat.strongRecOn with
  | _ n ih =>
    intro m h
    by_cases hm : m < 10
    · rw [dec_low hm]
      by_cases hn : n < 10
      · rw [dec_low hn]; simp
      · rw [dec_high hn]; simp
    · rw [dec_high hm, dec_high (show ¬ n < 10 by omega)]
      have := ih (n / 10) (by omega) (m / 10) (by omega)
      simp; omega
theorem itoa_mono {m n : Int} (h0 : 0 ≤ m) (h : m ≤ n) : (itoa m).length ≤ (itoa n).length := by
  rw [itoa_of_nonneg h0, itoa_of_nonneg (by omega)]
  exact dec_mono _ _ (by omega)
theorem dec_dg : ∀ (n : Nat) (b : UInt8), b ∈ decDigits n → isDg b = true := by
  intro n
  induction n using Nat.strongRecOn with
  | _ n ih =>
    have one : ∀ k, k < 10 → isDg (UInt8.ofNat (48 + k)) = true := by
      intro k hk
      have : (UInt8.ofNat (48 + k)).toNat = 48 + k := by simp; omega
      unfold isDg; rw [this]; simp; omega
    intro b hb
    by_cases hn : n < 10
    · rw [dec_low hn] at hb
      rw [List.mem_singleton.1 hb]; exact one n hn
    · rw [dec_high hn] at hb
      rcases List.mem_append.1 hb with h | h
      · exact ih (n / 10) (by omega) b h
      · rw [List.mem_singleton.1 h]; exact one _ (Nat.mod_lt n (by decide))
theorem pad_dg {w : Nat} {n : Int} (h : 0 ≤ n) (hw : (itoa n).length ≤ w) : (padS w (itoa n)).length = w ∧ ∀ b, b ∈ padS w (itoa n) → isDg b = true := by
  refine ⟨by simp [padS]; omega, fun b hb => ?_⟩
  rcases List.mem_append.1 hb with h1 | h1
  · rw [(List.mem_replicate.1 h1).2]; rfl
  · rw [itoa_of_nonneg h] at h1
    exact dec_dg _ b h1
theorem stamp_dgs {w : Nat} {se n : Int} (h : 0 ≤ n) (hw : (itoa n).length ≤ w) : dgs (stampS w se n) w = true := by
  obtain ⟨h1, h2⟩ := pad_dg h hw
  unfold dgs
  rw [List.all_eq_true]
  intro i hi
  have hi := List.mem_range.1 hi
  have e : (stampS w se n).getD (i + 1) 0 = (padS w (itoa n))[i]'(by omega) := by
    unfold stampS
    simp only [List.getD_eq_getElem?_getD, List.append_assoc, List.cons_append, List.nil_append, List.getElem?_cons_succ]
    rw [List.getElem?_append_left (by omega), List.getElem?_eq_getElem (by omega)]
    rfl
  rw [e]
  exact h2 _ (List.getElem_mem _)
theorem dsum_nonneg {s : List UInt8} {w : Nat} (h : dgs s w = true) : ∀ i, i ≤ w → 0 ≤ dsum s i
  | 0, _ => Int.le_refl _
  | i + 1, hi => by
    have ih := dsum_nonneg h i (by omega)
    have := List.all_eq_true.1 h i (List.mem_range.2 (by omega))
    unfold isDg at this
    simp only [Bool.and_eq_true, decide_eq_true_eq] at this
    simp only [dsum]
    omega
theorem read_same (K : Int) (s : List UInt8) : (readI K s).2.2 = (readS K s).2.2 ∧ ((readI K s).2.2 = true → (readI K s).2.1 = (readS K s).2.1) := by
  unfold readI readS
  by_cases hl : s.length = (itoa K).length + 4
  · rw [if_pos hl]
    have hse : isIn (((s.getD 0 0).toNat : Int) - 65) 0 25 = true ↔ 65 ≤ (s.getD 0 0).toNat ∧ (s.getD 0 0).toNat ≤ 90 := by simp [isIn]; omega
    by_cases hI : isIn (((s.getD 0 0).toNat : Int) - 65) 0 25 = true ∧ isIn (dsum s (itoa K).length) 0 (K - 1) = true ∧ stampS (itoa K).length ((s.getD 0 0).toNat - 65) (dsum s (itoa K).length) = s
    · rw [if_pos hI]
      obtain ⟨h1, h2, h3⟩ := hI
      have h2' : 0 ≤ dsum s (itoa K).length ∧ dsum s (itoa K).length < K := by simp [isIn] at h2; omega
      have hd : dgs s (itoa K).length = true := by
        have := stamp_dgs (w := (itoa K).length) (se := (s.getD 0 0).toNat - 65) h2'.1 (itoa_mono h2'.1 (by omega))
        rwa [h3] at this
      rw [if_pos ⟨hl, (hse.1 h1).1, (hse.1 h1).2, hd⟩]
      exact ⟨by rw [decide_eq_true h2'.2, decide_eq_true h3]; rfl, fun _ => rfl⟩
    · rw [if_neg hI]
      refine ⟨?_, fun h => by cases h⟩
      split
      · rename_i hS
        obtain ⟨_, a1, a2, a3⟩ := hS
        have h0 := dsum_nonneg a3 _ (Nat.le_refl _)
        symm
        rw [Bool.and_eq_false_iff]
        by_cases hK : dsum s (itoa K).length < K
        · right
          refine decide_eq_false fun h3 => hI ⟨hse.2 ⟨a1, a2⟩, ?_, h3⟩
          simp [isIn]; omega
        · left; exact decide_eq_false hK
      · rfl
  · rw [if_neg hl, if_neg fun h => hl h.1]
    exact ⟨rfl, fun h => by cases h⟩
theorem i32_wrap {x : Int} (h : 0 ≤ x ∧ x < 256) : IntKind.i32.wrap x = x := by
  simp [IntKind.wrap, IntKind.bits, IntKind.signed]
  omega
/- ---- contracts -/
theorem repeat_48 : ∀ k, Lib.repeatL [48] k = List.replicate k 48
  | 0 => rfl
  | k + 1 => by rw [Lib.repeatL, repeat_48 k, List.replicate_succ]; rfl
theorem c_Repeat0 (k : Nat) (h : k ≤ 1000000) : Fn Tryd.prog 115 [eS [48], eI k] true (· = eS (List.replicate k 48)) := by
  refine Fn.plain [.string ⟨[48].toArray⟩, .int .i64 k] ⟨Tryd.f115, _, Tryd.func115, by decide, rfl⟩ fun w S hk => ?_
  refine (Any.strings_Repeat Tryd.layRepeat Tryd.extraRepeat ⟨[48].toArray⟩ k w (by omega) (by simp [ba_size]; omega)).mono ?_
  rintro e w' ⟨rfl, hb⟩
  rw [ba_data, repeat_48]
  exact ⟨_, [], rfl, Grown.of_below hb, ownVal rfl, List.nodup_nil, fun b hb => by cases hb⟩
theorem c_digitsText (n : Int) (w : Nat) (hn : 0 ≤ n ∧ n ≤ 1000000) (hw : w ≤ 1000) : Fn Tryd.prog 102 [eI n, eI w] true (· = eS (padS w (itoa n))) := by
  refine Fn.of_vcN 16 [.tmp 4] Tryd.func102 rfl rfl rfl rfl rfl (of_decide_eq_true rfl) ?_
  have ht := c_text (n := n) ⟨by omega, by omega⟩
  have hl := itoa_len (v := n) ⟨by omega, by omega⟩
  have hmx : (if (w : Int) - ((itoa n).length : Int) > 0 then (w : Int) - ((itoa n).length : Int) else 0) = ((w - (itoa n).length : Nat) : Int) := by split <;> omega
  have hr := c_Repeat0 (w - (itoa n).length) (by omega)
  simp -dsimp -implicitDefEqProofs only [go_sem, ↓reduceIte, Nat.reduceEqDiff, Nat.reduceLT, Nat.reduceAdd, Nat.reduceMul, Nat.reduceLeDiff, Nat.le_refl, Int.natCast_zero, Int.toNat_natCast, Int.reduceToNat]
  (refine sCallT_one (ht) ?_; try simp -dsimp -implicitDefEqProofs only [go_sem, ↓reduceIte, Nat.reduceEqDiff, Nat.reduceLT, Nat.reduceAdd, Nat.reduceMul, Nat.reduceLeDiff, Nat.le_refl, Int.natCast_zero, Int.toNat_natCast, Int.reduceToNat, *])
  ((repeat' (with_reducible refine And.intro ?_ ?_)); all_goals try (first | omega | (refine ⟨?_, ?_⟩ <;> omega) | (exact rfl)))
  refine sCallT_one hr ?_
  simp -dsimp -implicitDefEqProofs only [go_sem, ↓reduceIte, Nat.reduceEqDiff, Nat.reduceLT, Nat.reduceAdd, Nat.reduceMul, Nat.reduceLeDiff, Nat.le_refl, Int.natCast_zero, Int.toNat_natCast, Int.reduceToNat]
  refine ⟨by simp; omega, by exact rfl⟩
theorem c_checkOf (se n : Int) (h : 0 ≤ se ∧ se ≤ 25) (hn : 0 ≤ n ∧ n ≤ 1000000) : Fn Tryd.prog 103 [eI se, eI n] true (· = eI (chk se n)) := by
  refine Fn.of_vcN 10 [.tmp 4] Tryd.func103 rfl rfl rfl rfl rfl (of_decide_eq_true rfl) ?_
  simp -dsimp -implicitDefEqProofs only [go_sem, ↓reduceIte, Nat.reduceEqDiff, Nat.reduceLT, Nat.reduceAdd, Nat.reduceMul, Nat.reduceLeDiff, Nat.le_refl, Int.natCast_zero, Int.toNat_natCast, Int.reduceToNat]
  ((repeat' (with_reducible refine And.intro ?_ ?_)); all_goals try (first | omega | (refine ⟨?_, ?_⟩ <;> omega) | (exact rfl)))
  all_goals trace_state
theorem c_l28Check (se n : Int) (h : 0 ≤ se ∧ se ≤ 25) (hn : 0 ≤ n ∧ n ≤ 1000000) : Fn Tryd.prog 95 [eI se, eI n] true (· = eI (chk se n)) := by
  refine Fn.of_vcN 10 [.tmp 4] Tryd.func95 rfl rfl rfl rfl rfl (of_decide_eq_true rfl) ?_
  simp -dsimp -implicitDefEqProofs only [go_sem, ↓reduceIte, Nat.reduceEqDiff, Nat.reduceLT, Nat.reduceAdd, Nat.reduceMul, Nat.reduceLeDiff, Nat.le_refl, Int.natCast_zero, Int.toNat_natCast, Int.reduceToNat]
  ((repeat' (with_reducible refine And.intro ?_ ?_)); all_goals try (first | omega | (refine ⟨?_, ?_⟩ <;> omega) | (exact rfl)))
  all_goals trace_state
theorem chk_bound {se n : Int} (h : 0 ≤ se ∧ se ≤ 25) (hn : 0 ≤ n ∧ n ≤ 1000000) : 0 ≤ chk se n ∧ chk se n ≤ 96 := by
  unfold chk
  rw [Int.tmod_eq_emod_of_nonneg (by omega)]
  omega
theorem c_stampText (K se n : Int) (hK : 0 ≤ K ∧ K ≤ 1000000) (h : 0 ≤ se ∧ se ≤ 25) (hn : 0 ≤ n ∧ n ≤ 1000000) : Fn Tryd.prog 82 [eI K, eI se, eI n] true (· = eS (stampS (itoa K).length se n)) := by
  refine Fn.of_vcN 23 [.tmp 6] Tryd.func82 rfl rfl rfl rfl rfl (of_decide_eq_true rfl) ?_
  have ht := c_text (n := K) ⟨by omega, by omega⟩
  have hl := itoa_len (v := K) ⟨by omega, by omega⟩
  have hd := c_digitsText n (itoa K).length hn (by omega)
  have hc := c_checkOf se n h hn
  have hcb := chk_bound h hn
  have hd2 := c_digitsText (chk se n) 2 (by omega) (by omega)
  have hw : IntKind.i32.wrap (65 + se) = 65 + se := i32_wrap (by omega)
  have hpl : (padS (itoa K).length (itoa n)).length ≤ 50 := by
    have := itoa_len (v := n) ⟨by omega, by omega⟩
    simp [padS]; omega
  have hpl2 : (padS 2 (itoa (chk se n))).length ≤ 50 := by
    have := itoa_len (v := chk se n) ⟨by omega, by omega⟩
    simp [padS]; omega
  unfold stampS
  generalize padS (itoa K).length (itoa n) = A at *
  generalize padS 2 (itoa (chk se n)) = Bs at *
  simp -dsimp -implicitDefEqProofs only [go_sem, ↓reduceIte, Nat.reduceEqDiff, Nat.reduceLT, Nat.reduceAdd, Nat.reduceMul, Nat.reduceLeDiff, Nat.le_refl, Int.natCast_zero, Int.toNat_natCast, Int.reduceToNat, hw]
  refine ⟨⟨by omega, by omega⟩, by omega, ?_⟩
  (refine sCallT_one (ht) ?_; try simp -dsimp -implicitDefEqProofs only [go_sem, ↓reduceIte, Nat.reduceEqDiff, Nat.reduceLT, Nat.reduceAdd, Nat.reduceMul, Nat.reduceLeDiff, Nat.le_refl, Int.natCast_zero, Int.toNat_natCast, Int.reduceToNat, *])
  (refine sCallT_one (hd) ?_; try simp -dsimp -implicitDefEqProofs only [go_sem, ↓reduceIte, Nat.reduceEqDiff, Nat.reduceLT, Nat.reduceAdd, Nat.reduceMul, Nat.reduceLeDiff, Nat.le_refl, Int.natCast_zero, Int.toNat_natCast, Int.reduceToNat, *])
  ((repeat' (with_reducible refine And.intro ?_ ?_)); all_goals try (first | omega | (refine ⟨?_, ?_⟩ <;> omega) | (exact rfl)))
  all_goals try (refine sCallT_one (hc) ?_; try simp -dsimp -implicitDefEqProofs only [go_sem, ↓reduceIte, Nat.reduceEqDiff, Nat.reduceLT, Nat.reduceAdd, Nat.reduceMul, Nat.reduceLeDiff, Nat.le_refl, Int.natCast_zero, Int.toNat_natCast, Int.reduceToNat, *])
  ((repeat' (with_reducible refine And.intro ?_ ?_)); all_goals try (first | omega | (refine ⟨?_, ?_⟩ <;> omega) | (exact rfl)))
  all_goals try (refine sCallT_one (hd2) ?_; try simp -dsimp -implicitDefEqProofs only [go_sem, ↓reduceIte, Nat.reduceEqDiff, Nat.reduceLT, Nat.reduceAdd, Nat.reduceMul, Nat.reduceLeDiff, Nat.le_refl, Int.natCast_zero, Int.toNat_natCast, Int.reduceToNat, *])
  ((repeat' (with_reducible refine And.intro ?_ ?_)); all_goals try (first | omega | (refine ⟨?_, ?_⟩ <;> omega) | (exact rfl)))
  all_goals trace_state
theorem c_l28Pad (n : Int) (w : Nat) (hn : 0 ≤ n ∧ n ≤ 1000000) (hw : w ≤ 1000) : Fn Tryd.prog 94 [eI n, eI w] true (· = eS (padS w (itoa n))) := by
  refine Fn.of_vcN 15 [.tmp 4] Tryd.func94 rfl rfl rfl rfl rfl (of_decide_eq_true rfl) ?_
  have ht := c_l01DecI n ⟨by omega, by omega⟩
  have hl := itoa_len (v := n) ⟨by omega, by omega⟩
  unfold padS
  generalize itoa n = A at *
  simp -dsimp -implicitDefEqProofs only [go_sem, ↓reduceIte, Nat.reduceEqDiff, Nat.reduceLT, Nat.reduceAdd, Nat.reduceMul, Nat.reduceLeDiff, Nat.le_refl, Int.natCast_zero, Int.toNat_natCast, Int.reduceToNat]
  (refine sCallT_one (ht) ?_; try simp -dsimp -implicitDefEqProofs only [go_sem, ↓reduceIte, Nat.reduceEqDiff, Nat.reduceLT, Nat.reduceAdd, Nat.reduceMul, Nat.reduceLeDiff, Nat.le_refl, Int.natCast_zero, Int.toNat_natCast, Int.reduceToNat, *])
  refine Later.up [1] [9] [] (w - A.length) (fun _ => True) (fun i => [(5, eS (List.replicate i 48 ++ A))]) (fun _ => []) trivial ?_ rfl (fun i hi _ => ?_) (fun _ => ?_)
  · simp -dsimp -implicitDefEqProofs only [go_sem, ↓reduceIte, Nat.reduceEqDiff, Nat.reduceLT, Nat.reduceAdd, Nat.reduceMul, Nat.reduceLeDiff, Nat.le_refl, Int.natCast_zero, Int.toNat_natCast, Int.reduceToNat]
    try simp
  · have hlt : decide (((i + A.length : Nat) : Int) < (w : Int)) = true := decide_eq_true (by omega)
    have hlen : (List.replicate i (48 : UInt8) ++ A).length = i + A.length := by simp
    rw [List.replicate_succ]
    simp -dsimp -implicitDefEqProofs only [pick_nil, pick_cons, look_nil, look_cons, dropB_nil, dropB_cons, inD_nil, inD_cons, inE_nil, inE_cons, or_t_l, or_f_l, Nat.reduceBEq, Nat.reduceDiv, Nat.reduceAdd, beq_self_eq_true, Bool.false_eq_true, Bool.or_false, ↓reduceIte, Nat.reduceEqDiff, List.cons_append, List.nil_append]
    simp -dsimp -implicitDefEqProofs only [go_sem, ↓reduceIte, Nat.reduceEqDiff, Nat.reduceLT, Nat.reduceAdd, Nat.reduceMul, Nat.reduceLeDiff, Nat.le_refl, Int.natCast_zero, Int.toNat_natCast, Int.reduceToNat, hlen, hlt]
    ((repeat' (with_reducible refine And.intro ?_ ?_)); all_goals try (first | omega | (refine ⟨?_, ?_⟩ <;> omega) | (exact rfl)))
    all_goals trace_state
  · have hlt : decide (((w - A.length + A.length : Nat) : Int) < (w : Int)) = false := decide_eq_false (by omega)
    have hlen : (List.replicate (w - A.length) (48 : UInt8) ++ A).length = w - A.length + A.length := by simp
    simp -dsimp -implicitDefEqProofs only [pick_nil, pick_cons, look_nil, look_cons, dropB_nil, dropB_cons, inD_nil, inD_cons, inE_nil, inE_cons, or_t_l, or_f_l, Nat.reduceBEq, Nat.reduceDiv, Nat.reduceAdd, beq_self_eq_true, Bool.false_eq_true, Bool.or_false, ↓reduceIte, Nat.reduceEqDiff, List.cons_append, List.nil_append]
    simp -dsimp -implicitDefEqProofs only [go_sem, ↓reduceIte, Nat.reduceEqDiff, Nat.reduceLT, Nat.reduceAdd, Nat.reduceMul, Nat.reduceLeDiff, Nat.le_refl, Int.natCast_zero, Int.toNat_natCast, Int.reduceToNat, hlen, hlt]
theorem cnt_nil_bound (m : MkM) (hm : isMk m = true) : cnt m m.chambers.toNat [] ≤ 262144 := by
  have hnum := isMk_num hm
  have := cnt_le m hm m.chambers.toNat []
  have : 8 ^ m.chambers.toNat ≤ 8 ^ 6 := Nat.pow_le_pow_right (by decide) (by omega)
  omega
theorem c_l02Count0 (m : MkM) (hm : isMk m = true) : Fn Tryd.prog 50 [eMk m, eNil] true (· = eI (cnt m m.chambers.toNat [])) :=
  (c_l02Count m hm m.chambers.toNat [] (by have := isMk_num hm; simp; omega) (fun x hx => by cases hx)).subs (.cons (.refl _) (.cons (.nil _) .nil))
theorem c_l28Digits (m : MkM) (hm : isMk m = true) : Fn Tryd.prog 72 [eMk m] true (· = eI ((itoa (cnt m m.chambers.toNat [])).length)) := by
  refine Fn.of_vcN 7 [.tmp 2] Tryd.func72 rfl rfl rfl rfl rfl (of_decide_eq_true rfl) ?_
  have hc := c_l02Count0 m hm
  have hb := cnt_nil_bound m hm
  generalize cnt m m.chambers.toNat [] = N at *
  have ht := c_l01DecI (N : Int) ⟨by omega, by omega⟩
  simp -dsimp -implicitDefEqProofs only [go_sem, ↓reduceIte, Nat.reduceEqDiff, Nat.reduceLT, Nat.reduceAdd, Nat.reduceMul, Nat.reduceLeDiff, Nat.le_refl, Int.natCast_zero, Int.toNat_natCast, Int.reduceToNat]
  (refine sCallT_one (hc) ?_; try simp -dsimp -implicitDefEqProofs only [go_sem, ↓reduceIte, Nat.reduceEqDiff, Nat.reduceLT, Nat.reduceAdd, Nat.reduceMul, Nat.reduceLeDiff, Nat.le_refl, Int.natCast_zero, Int.toNat_natCast, Int.reduceToNat, *])
  repeat' (refine sCallT_one (ht) ?_; try simp -dsimp -implicitDefEqProofs only [go_sem, ↓reduceIte, Nat.reduceEqDiff, Nat.reduceLT, Nat.reduceAdd, Nat.reduceMul, Nat.reduceLeDiff, Nat.le_refl, Int.natCast_zero, Int.toNat_natCast, Int.reduceToNat, *])
theorem c_l28Text (m : MkM) (hm : isMk m = true) (se n : Int) (h : 0 ≤ se ∧ se ≤ 25) (hn : 0 ≤ n ∧ n ≤ 1000000) : Fn Tryd.prog 73 [eMk m, eI se, eI n] true (· = eS (stampS (itoa (cnt m m.chambers.toNat [])).length se n)) := by
  refine Fn.of_vcN 23 [.tmp 6] Tryd.func73 rfl rfl rfl rfl rfl (of_decide_eq_true rfl) ?_
  have hc := c_l28Digits m hm
  have hb := cnt_nil_bound m hm
  generalize cnt m m.chambers.toNat [] = N at *
  have hl := itoa_len (v := (N : Int)) ⟨by omega, by omega⟩
  have hp := c_l28Pad n (itoa N).length hn (by omega)
  have hk := c_l28Check se n h hn
  have hcb := chk_bound h hn
  have hp2 := c_l28Pad (chk se n) 2 (by omega) (by omega)
  have hw : IntKind.u8.wrap (65 + se) = 65 + se := u8_wrap (by omega)
  have hpl : (padS (itoa N).length (itoa n)).length ≤ 50 := by
    have := itoa_len (v := n) ⟨by omega, by omega⟩
    simp [padS]; omega
  have hpl2 : (padS 2 (itoa (chk se n))).length ≤ 50 := by
    have := itoa_len (v := chk se n) ⟨by omega, by omega⟩
    simp [padS]; omega
  unfold stampS
  generalize padS (itoa N).length (itoa n) = A at *
  generalize padS 2 (itoa (chk se n)) = Bs at *
  simp -dsimp -implicitDefEqProofs only [go_sem, ↓reduceIte, Nat.reduceEqDiff, Nat.reduceLT, Nat.reduceAdd, Nat.reduceMul, Nat.reduceLeDiff, Nat.le_refl, Int.natCast_zero, Int.toNat_natCast, Int.reduceToNat]
  refine Later.draw mixed rfl ?_
  simp -dsimp -implicitDefEqProofs only [go_sem, ↓reduceIte, Nat.reduceEqDiff, Nat.reduceLT, Nat.reduceAdd, Nat.reduceMul, Nat.reduceLeDiff, Nat.le_refl, Int.natCast_zero, Int.toNat_natCast, Int.reduceToNat, hw]
  refine ⟨⟨by omega, by omega⟩, by omega, ?_⟩
  (refine sCallX_one (hc) ?_; try simp -dsimp -implicitDefEqProofs only [go_sem, ↓reduceIte, Nat.reduceEqDiff, Nat.reduceLT, Nat.reduceAdd, Nat.reduceMul, Nat.reduceLeDiff, Nat.le_refl, Int.natCast_zero, Int.toNat_natCast, Int.reduceToNat, *])
  (refine sCallX_one (hp) ?_; try simp -dsimp -implicitDefEqProofs only [go_sem, ↓reduceIte, Nat.reduceEqDiff, Nat.reduceLT, Nat.reduceAdd, Nat.reduceMul, Nat.reduceLeDiff, Nat.le_refl, Int.natCast_zero, Int.toNat_natCast, Int.reduceToNat, *])
  ((repeat' (with_reducible refine And.intro ?_ ?_)); all_goals try (first | omega | (refine ⟨?_, ?_⟩ <;> omega) | (exact rfl)))
  all_goals try (refine sCallX_one (hk) ?_; try simp -dsimp -implicitDefEqProofs only [go_sem, ↓reduceIte, Nat.reduceEqDiff, Nat.reduceLT, Nat.reduceAdd, Nat.reduceMul, Nat.reduceLeDiff, Nat.le_refl, Int.natCast_zero, Int.toNat_natCast, Int.reduceToNat, *])
  ((repeat' (with_reducible refine And.intro ?_ ?_)); all_goals try (first | omega | (refine ⟨?_, ?_⟩ <;> omega) | (exact rfl)))
  all_goals try (refine sCallX_one (hp2) ?_; try simp -dsimp -implicitDefEqProofs only [go_sem, ↓reduceIte, Nat.reduceEqDiff, Nat.reduceLT, Nat.reduceAdd, Nat.reduceMul, Nat.reduceLeDiff, Nat.le_refl, Int.natCast_zero, Int.toNat_natCast, Int.reduceToNat, *])
  ((repeat' (with_reducible refine And.intro ?_ ?_)); all_goals try (first | omega | (refine ⟨?_, ?_⟩ <;> omega) | (exact rfl)))
  all_goals trace_state
end Go.Vc
/-
  Contracts: how stamps are read; secrets.
-/
set_option linter.unusedVariables false
set_option linter.unusedSimpArgs false
set_option linter.unnecessarySimpa false
namespace Go.Vc
open Go.Proofs Go.Lib
set_option maxRecDepth 100000
set_option maxHeartbeats 2000000
theorem getD_in {s : List UInt8} {i : Nat} (h : i < s.length) : s.getD i 0 = s[i] := by simp [List.getD_eq_getElem?_getD, h]
theorem c_readStamp (K : Int) (s : List UInt8) (hK : 0 ≤ K ∧ K ≤ 262144) (h : s.length ≤ 1048576) : Fn Tryd.prog 54 [eI K, eS s] true (· = .tup [eI (readI K s).1, eI (readI K s).2.1, eB (readI K s).2.2]) := by
  refine Fn.of_vcN 56 [.tmp 4, .tmp 5, .tmp 6] Tryd.func54 rfl rfl rfl rfl rfl (of_decide_eq_true rfl) ?_
  have ht := c_text (n := K) ⟨by omega, by omega⟩
  have hw6 : (itoa K).length ≤ 6 := by rw [itoa_of_nonneg hK.1]; exact dec_len_le 5 _ (by omega)
  have hR : readI K s = if s.length = (itoa K).length + 4 then
    if isIn (((s.getD 0 0).toNat : Int) - 65) 0 25 = true ∧ isIn (dsum s (itoa K).length) 0 (K - 1) = true ∧ stampS (itoa K).length (((s.getD 0 0).toNat : Int) - 65) (dsum s (itoa K).length) = s then (((s.getD 0 0).toNat : Int) - 65, dsum s (itoa K).length, true) else (0, 0, false)
    else (0, 0, false) := rfl
  have hst := fun se n => c_stampText K se n (by omega)
  rw [hR]
  clear hR
  generalize itoa K = A at *
  rcases hl : ((s.length : Int) != (A.length : Int) + 4) with _ | _
  · have hl' : s.length = A.length + 4 := by simp at hl; omega
    have h0 := (s.getD 0 0).toNat_lt
    have hdb := dsum_bound s
    have hp6 : ∀ i, i ≤ A.length → (10 : Int) ^ i ≤ 10 ^ 6 := fun i hi => by
      have : 10 ^ i ≤ 10 ^ 6 := Nat.pow_le_pow_right (by decide) (by omega)
      exact_mod_cast this
    rw [if_pos hl']
    replace hl' : A.length + 4 ≤ s.length ∧ s.length ≤ A.length + 4 := by omega
    simp -dsimp -implicitDefEqProofs only [go_sem, ↓reduceIte, Nat.reduceEqDiff, Nat.reduceLT, Nat.reduceAdd, Nat.reduceMul, Nat.reduceLeDiff, Nat.le_refl, Int.natCast_zero, Int.toNat_natCast, Int.reduceToNat]
    repeat' (refine sCallT_one (ht) ?_; try simp -dsimp -implicitDefEqProofs only [go_sem, ↓reduceIte, Nat.reduceEqDiff, Nat.reduceLT, Nat.reduceAdd, Nat.reduceMul, Nat.reduceLeDiff, Nat.le_refl, Int.natCast_zero, Int.toNat_natCast, Int.reduceToNat, *])
    ((repeat' (with_reducible refine And.intro ?_ ?_)); all_goals try (first | omega | (refine ⟨?_, ?_⟩ <;> omega) | (exact rfl)))
    refine Later.up [0, 1, 7, 8] [] [] A.length (fun _ => True) (fun i => [(9, eI (dsum s i)), (10, eI ((i + 1 : Nat) : Int))]) (fun _ => []) trivial ?_ rfl (fun i hi _ => ?_) (fun _ => ?_)
    · simp -dsimp -implicitDefEqProofs only [go_sem, ↓reduceIte, Nat.reduceEqDiff, Nat.reduceLT, Nat.reduceAdd, Nat.reduceMul, Nat.reduceLeDiff, Nat.le_refl, Int.natCast_zero, Int.toNat_natCast, Int.reduceToNat]
      all_goals first | (simp [dsum]; done) | trace_state
    · have hlt : decide (((i + 1 : Nat) : Int) ≤ (A.length : Int)) = true := decide_eq_true (by omega)
      have hb := hdb i
      have hp := hp6 i (by omega)
      have hby := (s.getD (i + 1) 0).toNat_lt
      have hds : dsum s (i + 1) = dsum s i * 10 + ((s.getD (i + 1) 0).toNat : Int) - 48 := rfl
      rw [hds]
      clear hds hdb hp6 hst
      generalize dsum s i = D at *
      generalize (10 : Int) ^ i = p at *
      simp -dsimp -implicitDefEqProofs only [pick_nil, pick_cons, look_nil, look_cons, dropB_nil, dropB_cons, inD_nil, inD_cons, inE_nil, inE_cons, or_t_l, or_f_l, Nat.reduceBEq, Nat.reduceDiv, Nat.reduceAdd, beq_self_eq_true, Bool.false_eq_true, Bool.or_false, ↓reduceIte, Nat.reduceEqDiff, List.cons_append, List.nil_append]
      simp -dsimp -implicitDefEqProofs only [go_sem, ↓reduceIte, Nat.reduceEqDiff, Nat.reduceLT, Nat.reduceAdd, Nat.reduceMul, Nat.reduceLeDiff, Nat.le_refl, Int.natCast_zero, Int.toNat_natCast, Int.reduceToNat, hlt]
      generalize (s.getD (i + 1) 0).toNat = x at *
      ((repeat' (with_reducible refine And.intro ?_ ?_)); all_goals try (first | omega | (refine ⟨?_, ?_⟩ <;> omega) | (exact rfl)))
      all_goals first | (simp; done) | trace_state
    · have hlt : decide (((A.length + 1 : Nat) : Int) ≤ (A.length : Int)) = false := decide_eq_false (by omega)
      have hb := hdb A.length
      have hp := hp6 A.length (Nat.le_refl _)
      clear hdb hp6
      have h00 : (0 : Int) ≤ ((s.getD 0 0).toNat : Int) := Int.natCast_nonneg _
      generalize ((s.getD 0 0).toNat : Int) = x at *
      generalize dsum s A.length = D at *
      generalize (10 : Int) ^ A.length = p at *
      have hw1 := c_within (x - 65) 0 25
      have hw2 := c_within D 0 (K - 1)
      simp -dsimp -implicitDefEqProofs only [pick_nil, pick_cons, look_nil, look_cons, dropB_nil, dropB_cons, inD_nil, inD_cons, inE_nil, inE_cons, or_t_l, or_f_l, Nat.reduceBEq, Nat.reduceDiv, Nat.reduceAdd, beq_self_eq_true, Bool.false_eq_true, Bool.or_false, ↓reduceIte, Nat.reduceEqDiff, List.cons_append, List.nil_append]
      simp -dsimp -implicitDefEqProofs only [go_sem, ↓reduceIte, Nat.reduceEqDiff, Nat.reduceLT, Nat.reduceAdd, Nat.reduceMul, Nat.reduceLeDiff, Nat.le_refl, Int.natCast_zero, Int.toNat_natCast, Int.reduceToNat, hlt]
      rcases hb1 : isIn (x - 65) 0 25 with _ | _
      · rw [hb1] at hw1
        rw [if_neg (by simp)]
        clear hst hw2
        repeat' (refine sCallT_one (hw1) ?_; try simp -dsimp -implicitDefEqProofs only [go_sem, ↓reduceIte, Nat.reduceEqDiff, Nat.reduceLT, Nat.reduceAdd, Nat.reduceMul, Nat.reduceLeDiff, Nat.le_refl, Int.natCast_zero, Int.toNat_natCast, Int.reduceToNat, *])
        ((repeat' (with_reducible refine And.intro ?_ ?_)); all_goals try (first | omega | (refine ⟨?_, ?_⟩ <;> omega) | (exact rfl)))
        all_goals trace_state
      · rw [hb1] at hw1
        rcases hb2 : isIn D 0 (K - 1) with _ | _
        · rw [hb2] at hw2
          rw [if_neg (by simp)]
          clear hst hb1
          repeat' (refine sCallT_one (hw1) ?_; try simp -dsimp -implicitDefEqProofs only [go_sem, ↓reduceIte, Nat.reduceEqDiff, Nat.reduceLT, Nat.reduceAdd, Nat.reduceMul, Nat.reduceLeDiff, Nat.le_refl, Int.natCast_zero, Int.toNat_natCast, Int.reduceToNat, *])
          ((repeat' (with_reducible refine And.intro ?_ ?_)); all_goals try (first | omega | (refine ⟨?_, ?_⟩ <;> omega) | (exact rfl)))
          all_goals try (refine sCallT_one (hw2) ?_; try simp -dsimp -implicitDefEqProofs only [go_sem, ↓reduceIte, Nat.reduceEqDiff, Nat.reduceLT, Nat.reduceAdd, Nat.reduceMul, Nat.reduceLeDiff, Nat.le_refl, Int.natCast_zero, Int.toNat_natCast, Int.reduceToNat, *])
          ((repeat' (with_reducible refine And.intro ?_ ?_)); all_goals try (first | omega | (refine ⟨?_, ?_⟩ <;> omega) | (exact rfl)))
          all_goals trace_state
        · rw [hb2] at hw2
          have hst' := hst (x - 65) D (by simp [isIn] at hb1; omega) (by simp [isIn] at hb2; omega)
          by_cases h3 : stampS A.length (x - 65) D = s
          · rw [if_pos ⟨rfl, rfl, h3⟩]
            rw [h3] at hst'
            clear hst hb1 hb2 h3
            repeat' (refine sCallT_one (hw1) ?_; try simp -dsimp -implicitDefEqProofs only [go_sem, ↓reduceIte, Nat.reduceEqDiff, Nat.reduceLT, Nat.reduceAdd, Nat.reduceMul, Nat.reduceLeDiff, Nat.le_refl, Int.natCast_zero, Int.toNat_natCast, Int.reduceToNat, *])
            ((repeat' (with_reducible refine And.intro ?_ ?_)); all_goals try (first | omega | (refine ⟨?_, ?_⟩ <;> omega) | (exact rfl)))
            all_goals try (refine sCallT_one (hw2) ?_; try simp -dsimp -implicitDefEqProofs only [go_sem, ↓reduceIte, Nat.reduceEqDiff, Nat.reduceLT, Nat.reduceAdd, Nat.reduceMul, Nat.reduceLeDiff, Nat.le_refl, Int.natCast_zero, Int.toNat_natCast, Int.reduceToNat, *])
            ((repeat' (with_reducible refine And.intro ?_ ?_)); all_goals try (first | omega | (refine ⟨?_, ?_⟩ <;> omega) | (exact rfl)))
            all_goals try (refine sCallT_one (hst') ?_; try simp -dsimp -implicitDefEqProofs only [go_sem, ↓reduceIte, Nat.reduceEqDiff, Nat.reduceLT, Nat.reduceAdd, Nat.reduceMul, Nat.reduceLeDiff, Nat.le_refl, Int.natCast_zero, Int.toNat_natCast, Int.reduceToNat, *])
            ((repeat' (with_reducible refine And.intro ?_ ?_)); all_goals try (first | omega | (refine ⟨?_, ?_⟩ <;> omega) | (exact rfl)))
            all_goals first | (simp; done) | trace_state
          · rw [if_neg (fun h => h3 h.2.2)]
            have h3' := decide_eq_false h3
            clear hst hb1 hb2 h3
            generalize stampS A.length (x - 65) D = T at *
            repeat' (refine sCallT_one (hw1) ?_; try simp -dsimp -implicitDefEqProofs only [go_sem, ↓reduceIte, Nat.reduceEqDiff, Nat.reduceLT, Nat.reduceAdd, Nat.reduceMul, Nat.reduceLeDiff, Nat.le_refl, Int.natCast_zero, Int.toNat_natCast, Int.reduceToNat, *])
            ((repeat' (with_reducible refine And.intro ?_ ?_)); all_goals try (first | omega | (refine ⟨?_, ?_⟩ <;> omega) | (exact rfl)))
            all_goals try (refine sCallT_one (hw2) ?_; try simp -dsimp -implicitDefEqProofs only [go_sem, ↓reduceIte, Nat.reduceEqDiff, Nat.reduceLT, Nat.reduceAdd, Nat.reduceMul, Nat.reduceLeDiff, Nat.le_refl, Int.natCast_zero, Int.toNat_natCast, Int.reduceToNat, *])
            ((repeat' (with_reducible refine And.intro ?_ ?_)); all_goals try (first | omega | (refine ⟨?_, ?_⟩ <;> omega) | (exact rfl)))
            all_goals try (refine sCallT_one (hst') ?_; try simp -dsimp -implicitDefEqProofs only [go_sem, ↓reduceIte, Nat.reduceEqDiff, Nat.reduceLT, Nat.reduceAdd, Nat.reduceMul, Nat.reduceLeDiff, Nat.le_refl, Int.natCast_zero, Int.toNat_natCast, Int.reduceToNat, *])
            ((repeat' (with_reducible refine And.intro ?_ ?_)); all_goals try (first | omega | (refine ⟨?_, ?_⟩ <;> omega) | (exact rfl)))
            all_goals first | (simp; done) | trace_state
  · have hl' : ¬ s.length = A.length + 4 := by simp at hl; omega
    rw [if_neg hl']
    clear hl'
    simp -dsimp -implicitDefEqProofs only [go_sem, ↓reduceIte, Nat.reduceEqDiff, Nat.reduceLT, Nat.reduceAdd, Nat.reduceMul, Nat.reduceLeDiff, Nat.le_refl, Int.natCast_zero, Int.toNat_natCast, Int.reduceToNat]
    repeat' (refine sCallT_one (ht) ?_; try simp -dsimp -implicitDefEqProofs only [go_sem, ↓reduceIte, Nat.reduceEqDiff, Nat.reduceLT, Nat.reduceAdd, Nat.reduceMul, Nat.reduceLeDiff, Nat.le_refl, Int.natCast_zero, Int.toNat_natCast, Int.reduceToNat, *])
    ((repeat' (with_reducible refine And.intro ?_ ?_)); all_goals try (first | omega | (refine ⟨?_, ?_⟩ <;> omega) | (exact rfl)))
    all_goals trace_state
theorem c_l28Read (m : MkM) (hm : isMk m = true) (s : List UInt8) (h : s.length ≤ 1048576) : Fn Tryd.prog 49 [eMk m, eS s] true
    (· = .tup [eI (readS (cnt m m.chambers.toNat []) s).1, eI (readS (cnt m m.chambers.toNat []) s).2.1, eB (readS (cnt m m.chambers.toNat []) s).2.2]) := by
  refine Fn.of_vcN 68 [.tmp 4, .tmp 5, .tmp 6] Tryd.func49 rfl rfl rfl rfl rfl (of_decide_eq_true rfl) ?_
  have hC := cnt_nil_bound m hm
  have hdg := c_l28Digits m hm
  have hcn := c_l02Count0 m hm
  have htx := c_l28Text m hm
  generalize cnt m m.chambers.toNat [] = N at *
  have hw6 : (itoa (N : Int)).length ≤ 6 := by rw [itoa_of_nonneg (by omega)]; exact dec_len_le 5 _ (by omega)
  have hR : readS N s = if s.length = (itoa (N : Int)).length + 4 ∧ 65 ≤ (s.getD 0 0).toNat ∧ (s.getD 0 0).toNat ≤ 90 ∧ dgs s (itoa (N : Int)).length = true then
    (((s.getD 0 0).toNat : Int) - 65, dsum s (itoa (N : Int)).length, decide (dsum s (itoa (N : Int)).length < N) && decide (stampS (itoa (N : Int)).length (((s.getD 0 0).toNat : Int) - 65) (dsum s (itoa (N : Int)).length) = s))
    else (0, 0, false) := rfl
  generalize readS N s = R at *
  generalize itoa (N : Int) = A at *
  rcases hl : ((s.length : Int) != (A.length : Int) + 4) with _ | _
  · have hl' : s.length = A.length + 4 := by simp at hl; omega
    have h0 := (s.getD 0 0).toNat_lt
    rcases hs1 : decide (((s.getD 0 0).toNat : Int) < 65) with _ | _
    · rcases hs2 : decide (((s.getD 0 0).toNat : Int) > 90) with _ | _
      · have q1 := of_decide_eq_false hs1
        have q2 := of_decide_eq_false hs2
        have hR1 : dgs s A.length = false → R = (0, 0, false) := fun hh => by rw [hR, if_neg]; rintro ⟨_, _, _, h4⟩; rw [hh] at h4; cases h4
        have hR2 : dgs s A.length = true → R = (((s.getD 0 0).toNat : Int) - 65, dsum s A.length, decide (dsum s A.length < N) && decide (stampS A.length (((s.getD 0 0).toNat : Int) - 65) (dsum s A.length) = s)) := fun hh => by rw [hR, if_pos ⟨hl', by omega, by omega, hh⟩]
        replace hl' : A.length + 4 ≤ s.length ∧ s.length ≤ A.length + 4 := by omega
        have hdb := dsum_bound s
        have hp6 : ∀ i, i ≤ A.length → (10 : Int) ^ i ≤ 10 ^ 6 := fun i hi => by
          have : 10 ^ i ≤ 10 ^ 6 := Nat.pow_le_pow_right (by decide) (by omega)
          exact_mod_cast this
        clear hR
        simp -dsimp -implicitDefEqProofs only [go_sem, ↓reduceIte, Nat.reduceEqDiff, Nat.reduceLT, Nat.reduceAdd, Nat.reduceMul, Nat.reduceLeDiff, Nat.le_refl, Int.natCast_zero, Int.toNat_natCast, Int.reduceToNat]
        repeat' (refine sCallT_one (hdg) ?_; try simp -dsimp -implicitDefEqProofs only [go_sem, ↓reduceIte, Nat.reduceEqDiff, Nat.reduceLT, Nat.reduceAdd, Nat.reduceMul, Nat.reduceLeDiff, Nat.le_refl, Int.natCast_zero, Int.toNat_natCast, Int.reduceToNat, *])
        ((repeat' (with_reducible refine And.intro ?_ ?_)); all_goals try (first | omega | (refine ⟨?_, ?_⟩ <;> omega) | (exact rfl)))
        refine Later.up [1, 2] [28] [] A.length (fun i => dgs s i = true) (fun i => [(7, eI (dsum s i)), (8, eI ((i + 1 : Nat) : Int))]) (fun _ => []) rfl ?_ rfl (fun i hi hI => ?_) (fun hI => ?_)
        · simp -dsimp -implicitDefEqProofs only [go_sem, ↓reduceIte, Nat.reduceEqDiff, Nat.reduceLT, Nat.reduceAdd, Nat.reduceMul, Nat.reduceLeDiff, Nat.le_refl, Int.natCast_zero, Int.toNat_natCast, Int.reduceToNat]
          all_goals first | (simp [dsum]; done) | trace_state
        · have hlt : decide (((i + 1 : Nat) : Int) ≤ (A.length : Int)) = true := decide_eq_true (by omega)
          have hb := hdb i
          have hp := hp6 i (by omega)
          have hby := (s.getD (i + 1) 0).toNat_lt
          have hds : dsum s (i + 1) = dsum s i * 10 + ((s.getD (i + 1) 0).toNat : Int) - 48 := rfl
          have hnn := dsum_nonneg hI i (Nat.le_refl _)
          have no : isDg (s.getD (i + 1) 0) = false → R = (0, 0, false) := fun hh => hR1 (range_all_no hi hh)
          have yes : isDg (s.getD (i + 1) 0) = true → dgs s (i + 1) = true := fun hh => by
            have : dgs s (i + 1) = (dgs s i && isDg (s.getD (i + 1) 0)) := range_all_succ _ i
            rw [this, hI, hh]; rfl
          have hdgx : isDg (s.getD (i + 1) 0) = (decide (48 ≤ (s.getD (i + 1) 0).toNat) && decide ((s.getD (i + 1) 0).toNat ≤ 57)) := rfl
          rw [hdgx] at no yes
          rw [hds]
          clear hds hdb hp6 htx hR1 hR2 hcn hdgx
          generalize dsum s i = D at *
          generalize (10 : Int) ^ i = p at *
          rcases hx1 : decide (((s.getD (i + 1) 0).toNat : Int) < 48) with _ | _
          · rcases hx2 : decide (((s.getD (i + 1) 0).toNat : Int) > 57) with _ | _
            · have e1 := of_decide_eq_false hx1
              have e2 := of_decide_eq_false hx2
              have hw : IntKind.u8.wrap (((s.getD (i + 1) 0).toNat : Int) - 48) = ((s.getD (i + 1) 0).toNat : Int) - 48 := u8_wrap (by omega)
              have yes := yes (by rw [decide_eq_true (by omega), decide_eq_true (by omega)]; rfl)
              clear no
              simp -dsimp -implicitDefEqProofs only [pick_nil, pick_cons, look_nil, look_cons, dropB_nil, dropB_cons, inD_nil, inD_cons, inE_nil, inE_cons, or_t_l, or_f_l, Nat.reduceBEq, Nat.reduceDiv, Nat.reduceAdd, beq_self_eq_true, Bool.false_eq_true, Bool.or_false, ↓reduceIte, Nat.reduceEqDiff, List.cons_append, List.nil_append]
              simp -dsimp -implicitDefEqProofs only [go_sem, ↓reduceIte, Nat.reduceEqDiff, Nat.reduceLT, Nat.reduceAdd, Nat.reduceMul, Nat.reduceLeDiff, Nat.le_refl, Int.natCast_zero, Int.toNat_natCast, Int.reduceToNat]
              repeat' (refine sCallT_one (hdg) ?_; try simp -dsimp -implicitDefEqProofs only [go_sem, ↓reduceIte, Nat.reduceEqDiff, Nat.reduceLT, Nat.reduceAdd, Nat.reduceMul, Nat.reduceLeDiff, Nat.le_refl, Int.natCast_zero, Int.toNat_natCast, Int.reduceToNat, *])
              ((repeat' (with_reducible refine And.intro ?_ ?_)); all_goals try (first | omega | (refine ⟨?_, ?_⟩ <;> omega) | (exact rfl)))
              all_goals first
                | exact yes
                | (congr 1; omega)
                | (simp; done)
                | trace_state
            · have e2 := of_decide_eq_true hx2
              have no := no (by rw [decide_eq_false (show ¬ (s.getD (i + 1) 0).toNat ≤ 57 by omega)]; simp)
              clear yes
              rw [no]
              clear no
              simp -dsimp -implicitDefEqProofs only [pick_nil, pick_cons, look_nil, look_cons, dropB_nil, dropB_cons, inD_nil, inD_cons, inE_nil, inE_cons, or_t_l, or_f_l, Nat.reduceBEq, Nat.reduceDiv, Nat.reduceAdd, beq_self_eq_true, Bool.false_eq_true, Bool.or_false, ↓reduceIte, Nat.reduceEqDiff, List.cons_append, List.nil_append]
              simp -dsimp -implicitDefEqProofs only [go_sem, ↓reduceIte, Nat.reduceEqDiff, Nat.reduceLT, Nat.reduceAdd, Nat.reduceMul, Nat.reduceLeDiff, Nat.le_refl, Int.natCast_zero, Int.toNat_natCast, Int.reduceToNat]
              repeat' (refine sCallT_one (hdg) ?_; try simp -dsimp -implicitDefEqProofs only [go_sem, ↓reduceIte, Nat.reduceEqDiff, Nat.reduceLT, Nat.reduceAdd, Nat.reduceMul, Nat.reduceLeDiff, Nat.le_refl, Int.natCast_zero, Int.toNat_natCast, Int.reduceToNat, *])
              ((repeat' (with_reducible refine And.intro ?_ ?_)); all_goals try (first | omega | (refine ⟨?_, ?_⟩ <;> omega) | (exact rfl)))
              all_goals trace_state
          · have e2 := of_decide_eq_true hx1
            have no := no (by rw [decide_eq_false (show ¬ 48 ≤ (s.getD (i + 1) 0).toNat by omega)]; simp)
            clear yes
            rw [no]
            clear no
            simp -dsimp -implicitDefEqProofs only [pick_nil, pick_cons, look_nil, look_cons, dropB_nil, dropB_cons, inD_nil, inD_cons, inE_nil, inE_cons, or_t_l, or_f_l, Nat.reduceBEq, Nat.reduceDiv, Nat.reduceAdd, beq_self_eq_true, Bool.false_eq_true, Bool.or_false, ↓reduceIte, Nat.reduceEqDiff, List.cons_append, List.nil_append]
            simp -dsimp -implicitDefEqProofs only [go_sem, ↓reduceIte, Nat.reduceEqDiff, Nat.reduceLT, Nat.reduceAdd, Nat.reduceMul, Nat.reduceLeDiff, Nat.le_refl, Int.natCast_zero, Int.toNat_natCast, Int.reduceToNat]
            repeat' (refine sCallT_one (hdg) ?_; try simp -dsimp -implicitDefEqProofs only [go_sem, ↓reduceIte, Nat.reduceEqDiff, Nat.reduceLT, Nat.reduceAdd, Nat.reduceMul, Nat.reduceLeDiff, Nat.le_refl, Int.natCast_zero, Int.toNat_natCast, Int.reduceToNat, *])
            ((repeat' (with_reducible refine And.intro ?_ ?_)); all_goals try (first | omega | (refine ⟨?_, ?_⟩ <;> omega) | (exact rfl)))
            all_goals trace_state
        · have hlt : decide (((A.length + 1 : Nat) : Int) ≤ (A.length : Int)) = false := decide_eq_false (by omega)
          have hb := hdb A.length
          have hp := hp6 A.length (Nat.le_refl _)
          have hnn := dsum_nonneg hI A.length (Nat.le_refl _)
          have hw : IntKind.u8.wrap (((s.getD 0 0).toNat : Int) - 65) = ((s.getD 0 0).toNat : Int) - 65 := u8_wrap (by omega)
          rw [hR2 hI]
          clear hR1 hR2 hdb hp6 hI
          rcases hq : decide (dsum s A.length < (N : Int)) with _ | _
          · clear htx
            generalize dsum s A.length = D at *
            simp only [Bool.false_and]
            simp -dsimp -implicitDefEqProofs only [pick_nil, pick_cons, look_nil, look_cons, dropB_nil, dropB_cons, inD_nil, inD_cons, inE_nil, inE_cons, or_t_l, or_f_l, Nat.reduceBEq, Nat.reduceDiv, Nat.reduceAdd, beq_self_eq_true, Bool.false_eq_true, Bool.or_false, ↓reduceIte, Nat.reduceEqDiff, List.cons_append, List.nil_append]
            simp -dsimp -implicitDefEqProofs only [go_sem, ↓reduceIte, Nat.reduceEqDiff, Nat.reduceLT, Nat.reduceAdd, Nat.reduceMul, Nat.reduceLeDiff, Nat.le_refl, Int.natCast_zero, Int.toNat_natCast, Int.reduceToNat]
            repeat' (refine sCallT_one (hdg) ?_; try simp -dsimp -implicitDefEqProofs only [go_sem, ↓reduceIte, Nat.reduceEqDiff, Nat.reduceLT, Nat.reduceAdd, Nat.reduceMul, Nat.reduceLeDiff, Nat.le_refl, Int.natCast_zero, Int.toNat_natCast, Int.reduceToNat, *])
            ((repeat' (with_reducible refine And.intro ?_ ?_)); all_goals try (first | omega | (refine ⟨?_, ?_⟩ <;> omega) | (exact rfl)))
            all_goals try (refine sCallT_one (hcn) ?_; try simp -dsimp -implicitDefEqProofs only [go_sem, ↓reduceIte, Nat.reduceEqDiff, Nat.reduceLT, Nat.reduceAdd, Nat.reduceMul, Nat.reduceLeDiff, Nat.le_refl, Int.natCast_zero, Int.toNat_natCast, Int.reduceToNat, *])
            ((repeat' (with_reducible refine And.intro ?_ ?_)); all_goals try (first | omega | (refine ⟨?_, ?_⟩ <;> omega) | (exact rfl)))
            all_goals trace_state
          · have q3 := of_decide_eq_true hq
            have htx := htx (((s.getD 0 0).toNat : Int) - 65) (dsum s A.length) (by omega) (by omega)
            generalize dsum s A.length = D at *
            generalize hT : stampS A.length (((s.getD 0 0).toNat : Int) - 65) D = T at *
            clear hT
            simp only [Bool.true_and]
            simp -dsimp -implicitDefEqProofs only [pick_nil, pick_cons, look_nil, look_cons, dropB_nil, dropB_cons, inD_nil, inD_cons, inE_nil, inE_cons, or_t_l, or_f_l, Nat.reduceBEq, Nat.reduceDiv, Nat.reduceAdd, beq_self_eq_true, Bool.false_eq_true, Bool.or_false, ↓reduceIte, Nat.reduceEqDiff, List.cons_append, List.nil_append]
            simp -dsimp -implicitDefEqProofs only [go_sem, ↓reduceIte, Nat.reduceEqDiff, Nat.reduceLT, Nat.reduceAdd, Nat.reduceMul, Nat.reduceLeDiff, Nat.le_refl, Int.natCast_zero, Int.toNat_natCast, Int.reduceToNat]
            repeat' (refine sCallT_one (hdg) ?_; try simp -dsimp -implicitDefEqProofs only [go_sem, ↓reduceIte, Nat.reduceEqDiff, Nat.reduceLT, Nat.reduceAdd, Nat.reduceMul, Nat.reduceLeDiff, Nat.le_refl, Int.natCast_zero, Int.toNat_natCast, Int.reduceToNat, *])
            ((repeat' (with_reducible refine And.intro ?_ ?_)); all_goals try (first | omega | (refine ⟨?_, ?_⟩ <;> omega) | (exact rfl)))
            all_goals try (refine sCallT_one (hcn) ?_; try simp -dsimp -implicitDefEqProofs only [go_sem, ↓reduceIte, Nat.reduceEqDiff, Nat.reduceLT, Nat.reduceAdd, Nat.reduceMul, Nat.reduceLeDiff, Nat.le_refl, Int.natCast_zero, Int.toNat_natCast, Int.reduceToNat, *])
            ((repeat' (with_reducible refine And.intro ?_ ?_)); all_goals try (first | omega | (refine ⟨?_, ?_⟩ <;> omega) | (exact rfl)))
            all_goals try (refine sCallT_one (htx) ?_; try simp -dsimp -implicitDefEqProofs only [go_sem, ↓reduceIte, Nat.reduceEqDiff, Nat.reduceLT, Nat.reduceAdd, Nat.reduceMul, Nat.reduceLeDiff, Nat.le_refl, Int.natCast_zero, Int.toNat_natCast, Int.reduceToNat, *])
            ((repeat' (with_reducible refine And.intro ?_ ?_)); all_goals try (first | omega | (refine ⟨?_, ?_⟩ <;> omega) | (exact rfl)))
            all_goals trace_state
      · have hR0 : R = (0, 0, false) := by rw [hR, if_neg]; rintro ⟨_, _, h3, _⟩; have := of_decide_eq_true hs2; omega
        replace hl' : A.length + 4 ≤ s.length ∧ s.length ≤ A.length + 4 := by omega
        rw [hR0]
        clear hR hR0 htx hcn
        simp -dsimp -implicitDefEqProofs only [go_sem, ↓reduceIte, Nat.reduceEqDiff, Nat.reduceLT, Nat.reduceAdd, Nat.reduceMul, Nat.reduceLeDiff, Nat.le_refl, Int.natCast_zero, Int.toNat_natCast, Int.reduceToNat]
        repeat' (refine sCallT_one (hdg) ?_; try simp -dsimp -implicitDefEqProofs only [go_sem, ↓reduceIte, Nat.reduceEqDiff, Nat.reduceLT, Nat.reduceAdd, Nat.reduceMul, Nat.reduceLeDiff, Nat.le_refl, Int.natCast_zero, Int.toNat_natCast, Int.reduceToNat, *])
        ((repeat' (with_reducible refine And.intro ?_ ?_)); all_goals try (first | omega | (refine ⟨?_, ?_⟩ <;> omega) | (exact rfl)))
        all_goals trace_state
    · have hR0 : R = (0, 0, false) := by rw [hR, if_neg]; rintro ⟨_, h2, _, _⟩; have := of_decide_eq_true hs1; omega
      replace hl' : A.length + 4 ≤ s.length ∧ s.length ≤ A.length + 4 := by omega
      rw [hR0]
      clear hR hR0 htx hcn
      simp -dsimp -implicitDefEqProofs only [go_sem, ↓reduceIte, Nat.reduceEqDiff, Nat.reduceLT, Nat.reduceAdd, Nat.reduceMul, Nat.reduceLeDiff, Nat.le_refl, Int.natCast_zero, Int.toNat_natCast, Int.reduceToNat]
      repeat' (refine sCallT_one (hdg) ?_; try simp -dsimp -implicitDefEqProofs only [go_sem, ↓reduceIte, Nat.reduceEqDiff, Nat.reduceLT, Nat.reduceAdd, Nat.reduceMul, Nat.reduceLeDiff, Nat.le_refl, Int.natCast_zero, Int.toNat_natCast, Int.reduceToNat, *])
      ((repeat' (with_reducible refine And.intro ?_ ?_)); all_goals try (first | omega | (refine ⟨?_, ?_⟩ <;> omega) | (exact rfl)))
      all_goals trace_state
  · have hl' : ¬ s.length = A.length + 4 := by simp at hl; omega
    have hR0 : R = (0, 0, false) := by rw [hR, if_neg fun h => hl' h.1]
    rw [hR0]
    clear hR hR0 hl' htx hcn
    simp -dsimp -implicitDefEqProofs only [go_sem, ↓reduceIte, Nat.reduceEqDiff, Nat.reduceLT, Nat.reduceAdd, Nat.reduceMul, Nat.reduceLeDiff, Nat.le_refl, Int.natCast_zero, Int.toNat_natCast, Int.reduceToNat]
    repeat' (refine sCallT_one (hdg) ?_; try simp -dsimp -implicitDefEqProofs only [go_sem, ↓reduceIte, Nat.reduceEqDiff, Nat.reduceLT, Nat.reduceAdd, Nat.reduceMul, Nat.reduceLeDiff, Nat.le_refl, Int.natCast_zero, Int.toNat_natCast, Int.reduceToNat, *])
    ((repeat' (with_reducible refine And.intro ?_ ?_)); all_goals try (first | omega | (refine ⟨?_, ?_⟩ <;> omega) | (exact rfl)))
    all_goals trace_state
end Go.Vc
