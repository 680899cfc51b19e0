import Derived.Test.YtlelhmbhhnokoaaDoorDesk2
import Derived.Test.YtlelhmbhhnokoaaDoorNum
import Derived.Test.YtlelhmbhhnokoaaDoorVcSolo
import Derived.Test.YtlelhmbhhnokoaaDoorVcRec
/-
  All keys of a maker, in order: what visits them and what counts them, in plain Lean.
-/
set_option linter.unusedVariables false
set_option linter.unusedSimpArgs false
set_option linter.unnecessarySimpa false
namespace Go.Vc
open Go.Proofs
set_option maxRecDepth 100000
structure KS (σ : Type) where
  ver : Nat
  zs : List Int
  s : σ
def stN {τ : Type} (f : Nat → τ → τ × Bool) (t : τ) : Nat → τ × Bool
  | 0 => (t, true)
  | i + 1 => if (stN f t i).2 = true then f i (stN f t i).1 else stN f t i
theorem stN_succ {τ : Type} {f : Nat → τ → τ × Bool} {t : τ} {i : Nat} (h : (stN f t i).2 = true) : stN f t (i + 1) = f i (stN f t i).1 := by
  rw [stN, if_pos h]
theorem stN_stop {τ : Type} {f : Nat → τ → τ × Bool} {t : τ} {i : Nat} (h : (stN f t i).2 = false) : ∀ j, i ≤ j → stN f t j = stN f t i := by
  intro j hj
  induction j with
  | zero => rw [show i = 0 by omega]
  | succ j ih =>
    by_cases e : i = j + 1
    · rw [e]
    · have := ih (by omega)
      rw [stN, this, if_neg (by rw [h]; exact fun e => by cases e)]
def visitL {σ : Type} (f : σ → List Int → σ × Bool) : σ → List (List Int) → σ × Bool
  | s, [] => (s, true)
  | s, k :: r => if (f s k).2 = true then visitL f (f s k).1 r else f s k
theorem visitL_append {σ : Type} {f : σ → List Int → σ × Bool} : ∀ (a b : List (List Int)) (s : σ), visitL f s (a ++ b) = if (visitL f s a).2 = true then visitL f (visitL f s a).1 b else visitL f s a
  | [], b, s => by simp [visitL]
  | k :: a, b, s => by
    simp only [List.cons_append, visitL]
    by_cases h : (f s k).2 = true
    · simp only [h, if_true]; exact visitL_append a b _
    · have h' : (f s k).2 = false := by simpa using h
      simp [h']
def stepOk (m : MkM) (c : List Int) (d : Int) : Bool := c.isEmpty || decide (absN (d - c.getD (c.length - 1) 0) ≤ m.step)
def runOk (m : MkM) (c : List Int) (d : Int) : Bool := decide ((runAt (c ++ [d]) c.length : Int) ≤ m.same)
def keysFrom (m : MkM) : Nat → List Int → List (List Int)
  | 0, c => if (kindsTo c c.length : Int) < m.least then [] else [c]
  | n + 1, c => (List.range m.depths.toNat).flatMap fun (d : Nat) => if (stepOk m c (d : Int) && runOk m c (d : Int)) = true then keysFrom m n (c ++ [(d : Int)]) else []
def cutF {σ : Type} (m : MkM) (f : σ → List Int → σ × Bool) : Nat → List Int → KS σ → KS σ × Bool
  | 0, c, t => if (kindsTo c c.length : Int) < m.least then (t, true) else (⟨t.ver, t.zs, (f t.s c).1⟩, (f t.s c).2)
  | n + 1, c, t => stN (fun (d : Nat) t => if stepOk m c d = true then if runOk m c d = true then cutF m f n (c ++ [(d : Int)]) ⟨t.ver + 1, t.zs.take c.length ++ [(d : Int)], t.s⟩ else (⟨t.ver + 1, t.zs.take c.length ++ [(d : Int)], t.s⟩, true) else (t, true)) t m.depths.toNat
def cutB {σ : Type} (m : MkM) (f : σ → List Int → σ × Bool) (n : Nat) (c : List Int) (d : Nat) (t : KS σ) : KS σ × Bool :=
  if stepOk m c d = true then if runOk m c d = true then cutF m f n (c ++ [(d : Int)]) ⟨t.ver + 1, t.zs.take c.length ++ [(d : Int)], t.s⟩ else (⟨t.ver + 1, t.zs.take c.length ++ [(d : Int)], t.s⟩, true) else (t, true)
theorem cutF_succ {σ : Type} (m : MkM) (f : σ → List Int → σ × Bool) (n : Nat) (c : List Int) (t : KS σ) : cutF m f (n + 1) c t = stN (cutB m f n c) t m.depths.toNat := rfl
def okZ {σ : Type} (c : List Int) (t : KS σ) : Prop := t.zs.take c.length = c ∧ c.length ≤ t.zs.length
theorem okZ_next {σ : Type} {c : List Int} {t : KS σ} (h : okZ c t) (d : Int) : okZ (c ++ [d]) (⟨t.ver + 1, t.zs.take c.length ++ [d], t.s⟩ : KS σ) := by
  refine ⟨?_, ?_⟩
  · show (t.zs.take c.length ++ [d]).take (c ++ [d]).length = _
    rw [h.1]; exact List.take_length
  · show (c ++ [d]).length ≤ (t.zs.take c.length ++ [d]).length
    rw [h.1]; exact Nat.le_refl _
theorem okZ_back {σ : Type} {c : List Int} {d : Int} {t : KS σ} (h : okZ (c ++ [d]) t) : okZ c t := by
  have h2 : c.length ≤ t.zs.length := by have := h.2; simp at this; omega
  refine ⟨?_, h2⟩
  have := congrArg (List.take c.length) h.1
  simp only [List.take_take] at this
  rw [show min c.length (c ++ [d]).length = c.length by simp] at this
  rw [this]; simp
theorem cutF_spec {σ : Type} (m : MkM) (f : σ → List Int → σ × Bool) : ∀ (n : Nat) (c : List Int) (t : KS σ), okZ c t → okZ c (cutF m f n c t).1 ∧ (cutF m f n c t).1.s = (visitL f t.s (keysFrom m n c)).1 ∧ (cutF m f n c t).2 = (visitL f t.s (keysFrom m n c)).2
  | 0, c, t, h => by
    simp only [cutF, keysFrom]
    split
    · exact ⟨h, rfl, rfl⟩
    · refine ⟨h, ?_, ?_⟩
      · simp only [visitL]; split <;> rfl
      · simp only [visitL]; split <;> simp_all
  | n + 1, c, t, h => by
    rw [cutF_succ, keysFrom]
    generalize m.depths.toNat = D
    induction D with
    | zero => exact ⟨h, rfl, rfl⟩
    | succ D ih =>
      obtain ⟨i1, i2, i3⟩ := ih
      rw [List.range_succ, List.flatMap_append, visitL_append]
      rw [← i3]
      by_cases hb : (stN (cutB m f n c) t D).2 = true
      · rw [stN_succ hb, if_pos hb, ← i2]
        generalize (stN (cutB m f n c) t D).1 = u at i1
        simp only [List.flatMap_cons, List.flatMap_nil, List.append_nil, cutB]
        by_cases h1 : stepOk m c D = true
        · by_cases h2 : runOk m c D = true
          · rw [if_pos h1, if_pos h2, if_pos (by rw [h1, h2]; rfl)]
            have := cutF_spec m f n (c ++ [(D : Int)]) ⟨u.ver + 1, u.zs.take c.length ++ [(D : Int)], u.s⟩ (okZ_next i1 D)
            exact ⟨okZ_back this.1, this.2.1, this.2.2⟩
          · rw [if_pos h1, if_neg h2, if_neg (by simp [h2])]
            exact ⟨okZ_back (okZ_next i1 D), rfl, rfl⟩
        · rw [if_neg h1, if_neg (by simp [h1])]
          exact ⟨i1, rfl, rfl⟩
      · rw [stN, if_neg hb, if_neg hb]
        exact ⟨i1, i2, by simpa using i3⟩
theorem stN_okZ {σ : Type} {m : MkM} {f : σ → List Int → σ × Bool} {n : Nat} {c : List Int} {t : KS σ} (h : okZ c t) : ∀ D, okZ c (stN (cutB m f n c) t D).1
  | 0 => h
  | D + 1 => by
    have i1 := stN_okZ h D (m := m) (f := f) (n := n)
    by_cases hb : (stN (cutB m f n c) t D).2 = true
    · rw [stN_succ hb]
      generalize (stN (cutB m f n c) t D).1 = u at i1
      simp only [cutB]
      by_cases h1 : stepOk m c D = true
      · by_cases h2 : runOk m c D = true
        · rw [if_pos h1, if_pos h2]
          exact okZ_back (cutF_spec m f n (c ++ [(D : Int)]) ⟨u.ver + 1, u.zs.take c.length ++ [(D : Int)], u.s⟩ (okZ_next i1 D)).1
        · rw [if_pos h1, if_neg h2]; exact okZ_back (okZ_next i1 D)
      · rw [if_neg h1]; exact i1
    · rw [stN, if_neg hb]; exact i1
theorem keysFrom_len (m : MkM) (hm : isMk m = true) : ∀ (n : Nat) (c : List Int), (keysFrom m n c).length ≤ 8 ^ n
  | 0, c => by simp only [keysFrom]; split <;> simp
  | n + 1, c => by
    have hd : m.depths.toNat ≤ 8 := by have := isMk_num hm; omega
    have : ∀ D, ((List.range D).flatMap fun (d : Nat) => if (stepOk m c (d : Int) && runOk m c (d : Int)) = true then keysFrom m n (c ++ [(d : Int)]) else []).length ≤ D * 8 ^ n := by
      intro D
      induction D with
      | zero => simp
      | succ D ih =>
        rw [List.range_succ, List.flatMap_append, List.length_append, Nat.succ_mul]
        refine Nat.add_le_add ih ?_
        simp only [List.flatMap_cons, List.flatMap_nil, List.append_nil]
        split
        · exact keysFrom_len m hm n _
        · exact Nat.zero_le _
    rw [keysFrom, Nat.pow_succ, Nat.mul_comm (8 ^ n) 8]
    exact Nat.le_trans (this _) (Nat.mul_le_mul_right _ hd)
theorem keysFrom_mem (m : MkM) : ∀ (n : Nat) (c k : List Int), k ∈ keysFrom m n c → k.take c.length = c ∧ k.length = c.length + n
  | 0, c, k, h => by
    simp only [keysFrom] at h
    split at h
    · cases h
    · simp at h; subst h; simp
  | n + 1, c, k, h => by
    simp only [keysFrom, List.mem_flatMap, List.mem_range] at h
    obtain ⟨d, _, h⟩ := h
    split at h
    · have := keysFrom_mem m n _ k h
      have h1 := congrArg (List.take c.length) this.1
      simp only [List.take_take] at h1
      rw [show min c.length (c ++ [(d : Int)]).length = c.length by simp] at h1
      refine ⟨by rw [h1]; simp, by rw [this.2]; simp; omega⟩
    · cases h
theorem stN_inc {m : MkM} (hm : isMk m = true) {f : Int → List Int → Int × Bool} {n : Nat} {c : List Int} (hc : ∀ (c' : List Int) (t : KS Int), t.s ≤ (cutF m f n c' t).1.s ∧ (cutF m f n c' t).1.s ≤ t.s + 8 ^ n) (t : KS Int) :
    ∀ D : Nat, t.s ≤ (stN (cutB m f n c) t D).1.s ∧ (stN (cutB m f n c) t D).1.s ≤ t.s + D * 8 ^ n
  | 0 => by simp [stN]
  | D + 1 => by
    have ih := stN_inc hm hc t D (c := c)
    have hp : (0 : Int) ≤ 8 ^ n := Int.pow_nonneg (by decide)
    have e : ((D + 1 : Nat) : Int) * 8 ^ n = (D : Int) * 8 ^ n + 8 ^ n := by rw [Int.natCast_add, Int.add_mul]; simp
    rw [e]
    by_cases hb : (stN (cutB m f n c) t D).2 = true
    · rw [stN_succ hb]
      generalize (stN (cutB m f n c) t D).1 = u at ih
      simp only [cutB]
      split
      · split
        · have := hc (c ++ [(D : Int)]) ⟨u.ver + 1, u.zs.take c.length ++ [(D : Int)], u.s⟩
          simp only at this
          omega
        · simp only; omega
      · simp only; omega
    · rw [stN, if_neg hb]; omega
theorem cutF_inc {m : MkM} (hm : isMk m = true) {f : Int → List Int → Int × Bool} (hf : ∀ s k, s ≤ (f s k).1 ∧ (f s k).1 ≤ s + 1) : ∀ (n : Nat) (c : List Int) (t : KS Int), t.s ≤ (cutF m f n c t).1.s ∧ (cutF m f n c t).1.s ≤ t.s + 8 ^ n
  | 0, c, t => by
    simp only [cutF]
    have := hf t.s c
    split <;> simp <;> omega
  | n + 1, c, t => by
    have hd : m.depths.toNat ≤ 8 := by have := isMk_num hm; omega
    have := stN_inc hm (cutF_inc hm hf n) t m.depths.toNat (c := c)
    have hp : (0 : Int) ≤ 8 ^ n := Int.pow_nonneg (by decide)
    have h2 : (m.depths.toNat : Int) * 8 ^ n ≤ 8 * 8 ^ n := Int.mul_le_mul_of_nonneg_right (by omega) hp
    have h3 : (8 : Int) ^ (n + 1) = 8 * 8 ^ n := by rw [Int.pow_succ, Int.mul_comm]
    rw [cutF_succ, h3]
    omega
def cntF (s : Int) (_ : List Int) : Int × Bool := (s + 1, true)
def rankF (key : List Int) (s : Int) (k : List Int) : Int × Bool := if k = key then (s, false) else (s + 1, true)
theorem visit_cnt : ∀ (ks : List (List Int)) (s : Int), visitL cntF s ks = (s + ks.length, true)
  | [], s => by simp [visitL]
  | k :: r, s => by
    show visitL cntF (s + 1) r = _
    rw [visit_cnt r]
    simp; omega
theorem visit_rank {key : List Int} : ∀ (a b : List (List Int)) (s : Int), key ∉ a → visitL (rankF key) s (a ++ key :: b) = (s + a.length, false)
  | [], b, s, _ => by simp [visitL, rankF]
  | k :: a, b, s, h => by
    have h1 : k ≠ key := fun e => h (by simp [e])
    have h2 : rankF key s k = (s + 1, true) := by simp [rankF, h1]
    rw [List.cons_append, visitL, h2]
    show visitL (rankF key) (s + 1) _ = _
    rw [visit_rank a b (s + 1) fun hh => h (List.mem_cons_of_mem _ hh)]
    simp; omega
/-- whether cuts may begin a key -/
def okTo (m : MkM) (c : List Int) : Bool := (List.range c.length).all fun i => decide ((runAt c i : Int) ≤ m.same) && stepAt m c i
theorem stepAt_take {m : MkM} {c : List Int} {d : Int} {i : Nat} (h : i < c.length) : stepAt m (c ++ [d]) i = stepAt m c i := by
  have g : ∀ j, j < c.length → (c ++ [d]).getD j 0 = c.getD j 0 := fun j hj => by simp [List.getD_eq_getElem?_getD, List.getElem?_append_left hj]
  unfold stepAt
  rw [g i h, g (i - 1) (by omega)]
theorem runAt_app {c : List Int} {d : Int} {i : Nat} (h : i < c.length) : runAt (c ++ [d]) i = runAt c i := by
  have := runAt_take (c ++ [d]) c.length i h
  simp at this
  exact this.symm
theorem okTo_snoc (m : MkM) (c : List Int) (d : Int) : okTo m (c ++ [d]) = (okTo m c && (stepOk m c d && runOk m c d)) := by
  have h1 : (List.range c.length).all (fun i => decide ((runAt (c ++ [d]) i : Int) ≤ m.same) && stepAt m (c ++ [d]) i) = okTo m c := by
    unfold okTo
    rw [Bool.eq_iff_iff, List.all_eq_true, List.all_eq_true]
    constructor
    · intro h i hi
      have := h i hi
      rwa [runAt_app (List.mem_range.1 hi), stepAt_take (List.mem_range.1 hi)] at this
    · intro h i hi
      rw [runAt_app (List.mem_range.1 hi), stepAt_take (List.mem_range.1 hi)]
      exact h i hi
  have h2 : stepAt m (c ++ [d]) c.length = stepOk m c d := by
    unfold stepAt stepOk
    cases c with
    | nil => simp
    | cons x r =>
      have g1 : ((x :: r) ++ [d]).getD (x :: r).length 0 = d := by simp [List.getD_eq_getElem?_getD]
      have g2 : ((x :: r) ++ [d]).getD ((x :: r).length - 1) 0 = (x :: r).getD ((x :: r).length - 1) 0 := by
        simp only [List.getD_eq_getElem?_getD]
        rw [List.getElem?_append_left (by simp)]
      rw [g1, g2]
      simp
  rw [okTo, List.length_append, show c.length + [d].length = c.length + 1 by rfl, range_all_succ, h1, h2]
  unfold runOk
  cases okTo m c <;> cases stepOk m c d <;> simp
def cnt (m : MkM) (n : Nat) (c : List Int) : Nat := if okTo m c = true then (keysFrom m n c).length else 0
theorem cnt_zero (m : MkM) (c : List Int) (h : okTo m c = true) : cnt m 0 c = if (kindsTo c c.length : Int) < m.least then 0 else 1 := by
  rw [cnt, if_pos h, keysFrom]
  split <;> rfl
def cntTo (m : MkM) (n : Nat) (c : List Int) (D : Nat) : Nat := ((List.range D).map fun (d : Nat) => cnt m n (c ++ [(d : Int)])).sum
theorem cntTo_succ (m : MkM) (n : Nat) (c : List Int) (D : Nat) : cntTo m n c (D + 1) = cntTo m n c D + cnt m n (c ++ [(D : Int)]) := by
  rw [cntTo, List.range_succ, List.map_append, List.sum_append]
  simp [cntTo]
def keysTo (m : MkM) (n : Nat) (c : List Int) (D : Nat) : List (List Int) := (List.range D).flatMap fun (d : Nat) => if (stepOk m c (d : Int) && runOk m c (d : Int)) = true then keysFrom m n (c ++ [(d : Int)]) else []
theorem keysTo_succ (m : MkM) (n : Nat) (c : List Int) (D : Nat) : keysTo m n c (D + 1) = keysTo m n c D ++ if (stepOk m c (D : Int) && runOk m c (D : Int)) = true then keysFrom m n (c ++ [(D : Int)]) else [] := by
  rw [keysTo, List.range_succ, List.flatMap_append]
  simp [keysTo]
theorem keysTo_len (m : MkM) (n : Nat) (c : List Int) (h : okTo m c = true) (D : Nat) : (keysTo m n c D).length = cntTo m n c D := by
  induction D with
  | zero => rfl
  | succ D ih =>
    rw [keysTo_succ, cntTo_succ, List.length_append, ih]
    congr 1
    rw [cnt, okTo_snoc, h, Bool.true_and]
    split <;> rfl
theorem cnt_succ (m : MkM) (n : Nat) (c : List Int) (h : okTo m c = true) : cnt m (n + 1) c = cntTo m n c m.depths.toNat := by
  rw [cnt, if_pos h, ← keysTo_len m n c h]; rfl
theorem cnt_le (m : MkM) (hm : isMk m = true) (n : Nat) (c : List Int) : cnt m n c ≤ 8 ^ n := by
  unfold cnt
  split
  · exact keysFrom_len m hm n c
  · exact Nat.zero_le _
theorem cntTo_le (m : MkM) (hm : isMk m = true) (n : Nat) (c : List Int) (D : Nat) : cntTo m n c D ≤ D * 8 ^ n := by
  induction D with
  | zero => simp [cntTo]
  | succ D ih => rw [cntTo_succ, Nat.succ_mul]; exact Nat.add_le_add ih (cnt_le m hm n _)
theorem keysTo_mem {m : MkM} {n : Nat} {c k : List Int} : ∀ {D : Nat}, k ∈ keysTo m n c D → ∃ d : Nat, d < D ∧ k.take (c.length + 1) = c ++ [(d : Int)]
  | 0, h => by cases h
  | D + 1, h => by
    rw [keysTo_succ, List.mem_append] at h
    rcases h with h | h
    · obtain ⟨d, h1, h2⟩ := keysTo_mem h; exact ⟨d, by omega, h2⟩
    · split at h
      · have := (keysFrom_mem m n _ k h).1
        exact ⟨D, by omega, by simpa using this⟩
      · cases h
theorem keysTo_split (m : MkM) (n : Nat) (c : List Int) (D : Nat) : ∀ E, ∃ r, keysTo m n c (D + E) = keysTo m n c D ++ r
  | 0 => ⟨[], by simp⟩
  | E + 1 => by
    obtain ⟨r, h⟩ := keysTo_split m n c D E
    exact ⟨r ++ _, by rw [← Nat.add_assoc, keysTo_succ, h, List.append_assoc]⟩
def rankTo (m : MkM) (key : List Int) : Nat → Nat
  | 0 => 0
  | i + 1 => rankTo m key i + cntTo m (key.length - (i + 1)) (key.take i) (key.getD i 0).toNat
theorem take_app {key : List Int} {i : Nat} (h : i < key.length) : key.take (i + 1) = key.take i ++ [key.getD i 0] := by
  rw [List.take_add_one]
  simp [List.getD_eq_getElem?_getD, h]
theorem okTo_take {m : MkM} {key : List Int} (h : okTo m key = true) : ∀ j, okTo m (key.take (key.length - j)) = true
  | 0 => by simpa using h
  | j + 1 => by
    have ih := okTo_take h j
    by_cases e : j < key.length
    · rw [show key.length - j = key.length - (j + 1) + 1 by omega, take_app (by omega), okTo_snoc] at ih
      simp only [Bool.and_eq_true] at ih
      exact ih.1
    · rw [show key.length - (j + 1) = key.length - j by omega]; exact ih
theorem okTo_take' {m : MkM} {key : List Int} (h : okTo m key = true) {i : Nat} (hi : i ≤ key.length) : okTo m (key.take i) = true := by
  have := okTo_take h (key.length - i)
  rwa [show key.length - (key.length - i) = i by omega] at this
theorem rank_at {m : MkM} {key : List Int} (h : okTo m key = true) (hk : ¬ (kindsTo key key.length : Int) < m.least) (he : ∀ x ∈ key, 0 ≤ x ∧ x < m.depths) : ∀ (n i : Nat), i + n = key.length →
    ∃ a b, keysFrom m n (key.take i) = a ++ key :: b ∧ key ∉ a ∧ a.length + rankTo m key i = rankTo m key key.length
  | 0, i, hi => by
    have e : key.take i = key := by rw [show i = key.length by omega]; exact List.take_length
    refine ⟨[], [], ?_, List.not_mem_nil, ?_⟩
    · rw [e, keysFrom, if_neg hk]; rfl
    · rw [show i = key.length by omega]; simp
  | n + 1, i, hi => by
    have hlt : i < key.length := by omega
    have hx := he (key.getD i 0) (by rw [List.getD_eq_getElem?_getD, List.getElem?_eq_getElem hlt]; exact List.getElem_mem _)
    have hsn := take_app hlt
    have hok1 := okTo_take' h (show i + 1 ≤ key.length by omega)
    obtain ⟨a', b', h1, h2, h3⟩ := rank_at h hk he n (i + 1) (by omega)
    have ed : ((key.getD i 0).toNat : Int) = key.getD i 0 := by omega
    have hcond : (stepOk m (key.take i) ((key.getD i 0).toNat : Int) && runOk m (key.take i) ((key.getD i 0).toNat : Int)) = true := by
      rw [hsn, okTo_snoc] at hok1
      simp only [Bool.and_eq_true] at hok1
      rw [ed, hok1.2.1, hok1.2.2]; rfl
    obtain ⟨r, hr⟩ := keysTo_split m n (key.take i) ((key.getD i 0).toNat + 1) (m.depths.toNat - ((key.getD i 0).toNat + 1))
    rw [show (key.getD i 0).toNat + 1 + (m.depths.toNat - ((key.getD i 0).toNat + 1)) = m.depths.toNat by omega, keysTo_succ, if_pos hcond, ed, ← hsn, h1] at hr
    refine ⟨keysTo m n (key.take i) (key.getD i 0).toNat ++ a', b' ++ r, ?_, fun hm => ?_, ?_⟩
    · show keysTo m n (key.take i) m.depths.toNat = _
      rw [hr]; simp
    · rcases List.mem_append.1 hm with hm | hm
      · obtain ⟨d, g1, g2⟩ := keysTo_mem hm
        rw [show (key.take i).length + 1 = i + 1 by simp; omega, hsn] at g2
        have := List.append_cancel_left g2
        injection this with this
        omega
      · exact h2 hm
    · rw [List.length_append, keysTo_len m n _ (okTo_take' h (by omega)), ← h3, rankTo, show key.length - (i + 1) = n by omega]
      omega
theorem fault_out {m : MkM} {c : List Int} (h : fault m c = 0) : (c.length : Int) = m.chambers ∧ (∀ x ∈ c, 0 ≤ x ∧ x < m.depths) ∧ okTo m c = true ∧ ¬ (kindsTo c c.length : Int) < m.least := by
  unfold fault at h
  split at h
  · cases h
  · rename_i h1
    split at h
    · cases h
    · rename_i h2
      split at h
      · cases h
      · rename_i h3
        split at h
        · cases h
        · rename_i h4
          split at h
          · cases h
          · rename_i h5
            refine ⟨by omega, fun x hx => ?_, ?_, h5⟩
            · have := List.all_eq_true.1 (by simpa using h2) x hx
              simp [isIn] at this; omega
            · unfold okTo
              rw [List.all_eq_true]
              intro i hi
              have a3 := List.all_eq_true.1 (by simpa using h3) i hi
              have h4' : ((List.range c.length).all fun i => decide ((runAt c i : Int) ≤ m.same)) = true := by
                cases hh : ((List.range c.length).all fun i => decide ((runAt c i : Int) ≤ m.same)) with
                | true => rfl
                | false => exact absurd hh h4
              have a4 := List.all_eq_true.1 h4' i hi
              simp only [a3, a4, Bool.and_self]
theorem rank_of {m : MkM} {key : List Int} (h : fault m key = 0) : (visitL (rankF key) 0 (keysFrom m m.chambers.toNat [])).1 = rankTo m key key.length ∧ rankTo m key key.length < cnt m m.chambers.toNat [] := by
  obtain ⟨h1, h2, h3, h4⟩ := fault_out h
  obtain ⟨a, b, g1, g2, g3⟩ := rank_at h3 h4 h2 key.length 0 (by omega)
  rw [show key.length = m.chambers.toNat by omega] at g1
  have g1' : keysFrom m m.chambers.toNat [] = a ++ key :: b := g1
  have g3' : a.length = rankTo m key key.length := by simpa [rankTo] using g3
  rw [g1', visit_rank a b 0 g2, ← g3']
  refine ⟨by simp, ?_⟩
  have h0 : okTo m [] = true := rfl
  rw [cnt, if_pos h0, g1']
  simp
end Go.Vc
/-
  Values that stand for others: nil for an empty list.
-/
set_option linter.unusedVariables false
set_option linter.unusedSimpArgs false
set_option linter.unnecessarySimpa false
namespace Go.Vc
open Go.Proofs
def Sub (x y : AV) : Prop := ∀ (w : World) (S : Nat → Prop) (v : Value), Rd w S x v → Rd w S y v
inductive SubL : List AV → List AV → Prop
  | nil : SubL [] []
  | cons {x y : AV} {xs ys : List AV} (h : Sub x y) (hs : SubL xs ys) : SubL (x :: xs) (y :: ys)
theorem Sub.refl (x : AV) : Sub x x := fun _ _ _ h => h
theorem Sub.nil (sh : Sh) : Sub (.val (.slice none 0 0)) (.arr sh []) := fun _ _ _ h => by cases h; exact .nil sh none
theorem SubL.get {xs ys : List AV} (h : SubL xs ys) : xs.length = ys.length ∧ ∀ i (h1 : i < xs.length) (h2 : i < ys.length), Sub xs[i] ys[i] := by
  induction h with
  | nil => exact ⟨rfl, fun i h1 => absurd h1 (Nat.not_lt_zero _)⟩
  | cons h hs ih =>
    refine ⟨by simp [ih.1], fun i h1 h2 => ?_⟩
    cases i with
    | zero => exact h
    | succ i => exact ih.2 i (by simpa using h1) (by simpa using h2)
theorem Fn.subs {P : Program} {f : FuncId} {args args' : List AV} {own : Bool} {post : AV → Prop} (h : Fn P f args own post) (hs : SubL args' args) : Fn P f args' own post :=
  ⟨h.1, fun w S vs h1 h0 h2 h3 => h.2 w S vs h1 h0 (h2.trans hs.get.1) fun i hi => hs.get.2 i (by rw [hs.get.1]; exact hi) hi _ _ _ (h3 i _)⟩
abbrev eNil : AV := .val (.slice none 0 0)
end Go.Vc
/-
  Contracts: what counts keys by their beginnings; codes of keys.
-/
set_option linter.unusedVariables false
set_option linter.unusedSimpArgs false
set_option linter.unnecessarySimpa false
namespace Go.Vc
open Go.Proofs
set_option maxRecDepth 100000
set_option maxHeartbeats 2000000
def okAt (m : MkM) (c : List Int) (i : Nat) : Bool := decide ((runAt c i : Int) ≤ m.same) && stepAt m c i
theorem c_l02Begins (m : MkM) (c : List Int) (hm : isMk m = true) (h : c.length ≤ 6) (hel : ∀ x ∈ c, 0 ≤ x ∧ x ≤ 7) : Fn Tryd.prog 74 [eMk m, eIs c] true (· = eB (okTo m c)) := by
  refine Fn.of_vcN 53 [.tmp 4] Tryd.func74 rfl rfl rfl rfl rfl (of_decide_eq_true rfl) ?_
  have hF : okTo m c = (List.range c.length).all (okAt m c) := rfl
  simp -dsimp -implicitDefEqProofs only [go_sem, ↓reduceIte, Nat.reduceEqDiff, Nat.reduceLT, Nat.reduceAdd, Nat.reduceMul, Nat.reduceLeDiff, Nat.le_refl, Int.natCast_zero, Int.toNat_natCast, Int.reduceToNat]
  refine Later.up [1, 2] [9, 47] [] c.length (fun i => (List.range i).all (okAt m c) = true) (fun i => [(6, eI i), (5, eI (runTo c i))]) (fun _ => []) (by simp) ?_ rfl (fun i hi hI => ?_) (fun hI => ?_)
  · rw [show runTo c 0 = 0 from rfl]
    simp -dsimp -implicitDefEqProofs only [go_sem, ↓reduceIte, Nat.reduceEqDiff, Nat.reduceLT, Nat.reduceAdd, Nat.reduceMul, Nat.reduceLeDiff, Nat.le_refl, Int.natCast_zero, Int.toNat_natCast, Int.reduceToNat]
    all_goals (first | omega | (refine ⟨?_, ?_⟩ <;> omega) | (simp; done) | (simp; omega) | (refine ⟨?_, ?_⟩ <;> omega) | rfl | (simp; done) | (simp_all; done) | (simp_all; omega) | (exfalso; simp_all [bne]; done) | trace_state)
  · have no : okAt m c i = false → okTo m c = false := fun h => by rw [hF]; exact range_all_no hi h
    have yes : okAt m c i = true → (List.range (i + 1)).all (okAt m c) = true := fun h => by rw [range_all_succ, hI, h]; rfl
    have hrb : runTo c i ≤ i ∧ runTo c (i + 1) ≤ i + 1 := by
      refine ⟨?_, (runAt_spec c i).2.1⟩
      rw [runTo]; split
      · omega
      · have := (runAt_spec c (i - 1)).2.1; omega
    have e1 := hel c[i] (List.getElem_mem hi)
    have gi := get_some hi
    have li := lt_len hi
    have hok : okAt m c i = (decide (((runTo c (i + 1) : Nat) : Int) ≤ m.same) && stepAt m c i) := rfl
    clear hF hI
    by_cases hi0 : 0 < i
    rotate_left
    · have g3 : decide ((i : Int) > 0) = false := by simp; omega
      have hR : runTo c i = 0 ∧ runTo c (i + 1) = 1 := by
        have e0 : i = 0 := by omega
        subst e0
        exact ⟨rfl, by show runAt c 0 = 1; unfold runAt; rfl⟩
      have hs : okAt m c i = true := by
        have e0 : i = 0 := by omega
        have := isMk_same hm
        rw [hok, hR.2]
        subst e0
        have : decide (((1 : Nat) : Int) ≤ m.same) = true := decide_eq_true (by omega)
        rw [this]; rfl
      have hsame : decide ((1 : Int) > m.same) = false := decide_eq_false (by have := isMk_same hm; omega)
      rw [hR.1, hR.2]
      clear hR hrb no
      have yes := yes hs
      simp -dsimp -implicitDefEqProofs only [pick_nil, pick_cons, look_nil, look_cons, dropB_nil, dropB_cons, inD_nil, inD_cons, inE_nil, inE_cons, or_t_l, or_f_l, Nat.reduceBEq, Nat.reduceDiv, Nat.reduceAdd, beq_self_eq_true, Bool.false_eq_true, Bool.or_false, ↓reduceIte, Nat.reduceEqDiff, List.cons_append, List.nil_append]
      simp -dsimp -implicitDefEqProofs only [go_sem, ↓reduceIte, Nat.reduceEqDiff, Nat.reduceLT, Nat.reduceAdd, Nat.reduceMul, Nat.reduceLeDiff, Nat.le_refl, Int.natCast_zero, Int.toNat_natCast, Int.reduceToNat, li, gi, g3]
      repeat' first
        | (refine Br.intro (fun _ => ?_) (fun _ => ?_) <;> try simp -dsimp -implicitDefEqProofs only [go_sem, ↓reduceIte, Nat.reduceEqDiff, Nat.reduceLT, Nat.reduceAdd, Nat.reduceMul, Nat.reduceLeDiff, Nat.le_refl, Int.natCast_zero, Int.toNat_natCast, Int.reduceToNat, *])
        | (with_reducible refine And.intro ?_ ?_)
        | (refine Later.draw mixed rfl ?_; try simp -dsimp -implicitDefEqProofs only [go_sem, ↓reduceIte, Nat.reduceEqDiff, Nat.reduceLT, Nat.reduceAdd, Nat.reduceMul, Nat.reduceLeDiff, Nat.le_refl, Int.natCast_zero, Int.toNat_natCast, Int.reduceToNat, li, gi, g3, hsame])
      all_goals first
        | exact yes
        | (first | omega | (refine ⟨?_, ?_⟩ <;> omega) | (simp; done) | (simp; omega) | (refine ⟨?_, ?_⟩ <;> omega) | rfl | (simp; done) | (simp_all; done) | (simp_all; omega) | (exfalso; simp_all [bne]; done) | trace_state)
    · have hi' : i - 1 < c.length := by omega
      have e2 := hel c[i - 1] (List.getElem_mem hi')
      have g2 : c[((i : Int) - 1).toNat]? = some c[i - 1] := by rw [pred_toNat hi0]; exact get_some hi'
      have g3 : decide ((i : Int) > 0) = true := by simp; omega
      have hs : stepAt m c i = !decide (absN (c[i] - c[i - 1]) > m.step) := by
        rw [stepAt, show (i == 0) = false by simp; omega]
        have q1 : c.getD i 0 = c[i] := by simp [List.getD_eq_getElem?_getD, hi]
        have q2 : c.getD (i - 1) 0 = c[i - 1] := by simp [List.getD_eq_getElem?_getD, hi']
        rw [q1, q2, Bool.false_or]
        by_cases hq : absN (c[i] - c[i - 1]) ≤ m.step
        · rw [decide_eq_true hq, decide_eq_false (by omega)]; rfl
        · rw [decide_eq_false hq, decide_eq_true (by omega)]; rfl
      have hR : ((runTo c (i + 1) : Nat) : Int) = if (c[i] == c[i - 1]) = true then (runTo c i : Int) + 1 else 0 + 1 := by
        obtain ⟨j, rfl⟩ : ∃ j, i = j + 1 := ⟨i - 1, by omega⟩
        rw [show runTo c (j + 1 + 1) = runAt c (j + 1) from rfl, show runTo c (j + 1) = runAt c j from rfl, runAt]
        simp only [Nat.add_sub_cancel]
        have q1 : c.getD (j + 1) 0 = c[j + 1] := by simp [List.getD_eq_getElem?_getD, hi]
        have q2 : c.getD j 0 = c[j] := by simp [List.getD_eq_getElem?_getD, show j < c.length by omega]
        rw [q1, q2]
        by_cases hq : c[j + 1] = c[j]
        · rw [if_pos hq, if_pos (by simpa using hq)]; simp
        · rw [if_neg hq, if_neg (by simpa using hq)]; simp
      have hok2 : okAt m c i = (!decide (((runTo c (i + 1) : Nat) : Int) > m.same) && !decide (absN (c[i] - c[i - 1]) > m.step)) := by
        rw [hok, hs]
        congr 1
        by_cases hq : ((runTo c (i + 1) : Nat) : Int) ≤ m.same
        · rw [decide_eq_true hq, decide_eq_false (by omega)]; rfl
        · rw [decide_eq_false hq, decide_eq_true (by omega)]; rfl
      clear hok hs
      rw [hok2] at no yes
      clear hok2
      have habs := c_l01Abs (c[i] - c[i - 1]) (by omega)
      rcases hq1 : (c[i] == c[i - 1]) with _ | _
      all_goals
        rw [hq1] at hR
        simp only [if_true, Bool.false_eq_true, if_false] at hR
        have hne : (c[i] != c[i - 1]) = !(c[i] == c[i - 1]) := rfl
        rw [hq1] at hne
        rw [hR] at no yes
        rcases hq2 : decide (absN (c[i] - c[i - 1]) > m.step) with _ | _
      all_goals
        first
          | (rcases hq3 : decide ((runTo c i : Int) + 1 > m.same) with _ | _)
          | skip
      all_goals
        generalize runTo c i = R at *
        generalize runTo c (i + 1) = R' at *
        simp -dsimp -implicitDefEqProofs only [pick_nil, pick_cons, look_nil, look_cons, dropB_nil, dropB_cons, inD_nil, inD_cons, inE_nil, inE_cons, or_t_l, or_f_l, Nat.reduceBEq, Nat.reduceDiv, Nat.reduceAdd, beq_self_eq_true, Bool.false_eq_true, Bool.or_false, ↓reduceIte, Nat.reduceEqDiff, List.cons_append, List.nil_append]
        try rw [hR]
        simp -dsimp -implicitDefEqProofs only [go_sem, ↓reduceIte, Nat.reduceEqDiff, Nat.reduceLT, Nat.reduceAdd, Nat.reduceMul, Nat.reduceLeDiff, Nat.le_refl, Int.natCast_zero, Int.toNat_natCast, Int.reduceToNat, li, gi, g2, g3]
        repeat' first
          | (refine Br.intro (fun _ => ?_) (fun _ => ?_) <;> try simp -dsimp -implicitDefEqProofs only [go_sem, ↓reduceIte, Nat.reduceEqDiff, Nat.reduceLT, Nat.reduceAdd, Nat.reduceMul, Nat.reduceLeDiff, Nat.le_refl, Int.natCast_zero, Int.toNat_natCast, Int.reduceToNat, *])
          | (with_reducible refine And.intro ?_ ?_)
          | (refine Later.draw mixed rfl ?_; try simp -dsimp -implicitDefEqProofs only [go_sem, ↓reduceIte, Nat.reduceEqDiff, Nat.reduceLT, Nat.reduceAdd, Nat.reduceMul, Nat.reduceLeDiff, Nat.le_refl, Int.natCast_zero, Int.toNat_natCast, Int.reduceToNat, li, gi, g2, g3])
          | (refine sCallX_one (habs) ?_; try simp -dsimp -implicitDefEqProofs only [go_sem, ↓reduceIte, Nat.reduceEqDiff, Nat.reduceLT, Nat.reduceAdd, Nat.reduceMul, Nat.reduceLeDiff, Nat.le_refl, Int.natCast_zero, Int.toNat_natCast, Int.reduceToNat, *])
        all_goals first
          | (rw [no (by simp_all)]; done)
          | (rw [← List.range_succ]; exact yes (by simp_all))
          | (first | omega | (refine ⟨?_, ?_⟩ <;> omega) | (simp; done) | (simp; omega) | (refine ⟨?_, ?_⟩ <;> omega) | rfl | (simp; done) | (simp_all; done) | (simp_all; omega) | (exfalso; simp_all [bne]; done) | trace_state)
  · rw [← hF] at hI
    rw [hI]
    simp -dsimp -implicitDefEqProofs only [pick_nil, pick_cons, look_nil, look_cons, dropB_nil, dropB_cons, inD_nil, inD_cons, inE_nil, inE_cons, or_t_l, or_f_l, Nat.reduceBEq, Nat.reduceDiv, Nat.reduceAdd, beq_self_eq_true, Bool.false_eq_true, Bool.or_false, ↓reduceIte, Nat.reduceEqDiff, List.cons_append, List.nil_append]
    simp -dsimp -implicitDefEqProofs only [go_sem, ↓reduceIte, Nat.reduceEqDiff, Nat.reduceLT, Nat.reduceAdd, Nat.reduceMul, Nat.reduceLeDiff, Nat.le_refl, Int.natCast_zero, Int.toNat_natCast, Int.reduceToNat, nlt_len]
theorem c_EqualI (xs ys : List Int) (h : xs.length ≤ 9223372036854775807) : Fn Tryd.prog 80 [eIs xs, eIs ys] true (· = eB (decide (xs = ys))) := by
  refine Fn.of_vcN 26 [.tmp 4] Tryd.func80 rfl rfl rfl rfl rfl (of_decide_eq_true rfl) ?_
  simp -dsimp -implicitDefEqProofs only [go_sem, ↓reduceIte, Nat.reduceEqDiff, Nat.reduceLT, Nat.reduceAdd, Nat.reduceMul, Nat.reduceLeDiff, Nat.le_refl, Int.natCast_zero, Int.toNat_natCast, Int.reduceToNat]
  repeat' (refine Br.intro (fun _ => ?_) (fun _ => ?_) <;> try simp -dsimp -implicitDefEqProofs only [go_sem, ↓reduceIte, Nat.reduceEqDiff, Nat.reduceLT, Nat.reduceAdd, Nat.reduceMul, Nat.reduceLeDiff, Nat.le_refl, Int.natCast_zero, Int.toNat_natCast, Int.reduceToNat, *])
  · rw [decide_eq_false]; intro e; subst e; simp_all
  have h1 : xs.length = ys.length := by simp_all <;> omega
  refine Later.up [0, 1, 12] [] [] xs.length (fun i => xs.take i = ys.take i) (fun i => [(13, eI i)]) (fun _ => []) rfl ?_ rfl (fun i hi hI => ?_) (fun hI => ?_)
  · simp -dsimp -implicitDefEqProofs only [go_sem, ↓reduceIte, Nat.reduceEqDiff, Nat.reduceLT, Nat.reduceAdd, Nat.reduceMul, Nat.reduceLeDiff, Nat.le_refl, Int.natCast_zero, Int.toNat_natCast, Int.reduceToNat]
  · simp -dsimp -implicitDefEqProofs only [pick_nil, pick_cons, look_nil, look_cons, dropB_nil, dropB_cons, inD_nil, inD_cons, inE_nil, inE_cons, or_t_l, or_f_l, Nat.reduceBEq, Nat.reduceDiv, Nat.reduceAdd, beq_self_eq_true, Bool.false_eq_true, Bool.or_false, ↓reduceIte, Nat.reduceEqDiff, List.cons_append, List.nil_append]
    have hy : i < ys.length := by omega
    have no : xs[i] ≠ ys[i] → decide (xs = ys) = false := eq_no hi hy
    have yes : xs[i] = ys[i] → xs.take (i + 1) = ys.take (i + 1) := eq_yes hi hy hI
    simp -dsimp -implicitDefEqProofs only [go_sem, ↓reduceIte, Nat.reduceEqDiff, Nat.reduceLT, Nat.reduceAdd, Nat.reduceMul, Nat.reduceLeDiff, Nat.le_refl, Int.natCast_zero, Int.toNat_natCast, Int.reduceToNat, lt_len hi, get_some hi]
    refine Later.draw mixed rfl ?_
    simp -dsimp -implicitDefEqProofs only [go_sem, ↓reduceIte, Nat.reduceEqDiff, Nat.reduceLT, Nat.reduceAdd, Nat.reduceMul, Nat.reduceLeDiff, Nat.le_refl, Int.natCast_zero, Int.toNat_natCast, Int.reduceToNat, get_some hi, get_some hy]
    repeat' first
      | (refine Br.intro (fun _ => ?_) (fun _ => ?_) <;> try simp -dsimp -implicitDefEqProofs only [go_sem, ↓reduceIte, Nat.reduceEqDiff, Nat.reduceLT, Nat.reduceAdd, Nat.reduceMul, Nat.reduceLeDiff, Nat.le_refl, Int.natCast_zero, Int.toNat_natCast, Int.reduceToNat, *])
      | (with_reducible refine And.intro ?_ ?_)
      | fail
    all_goals first
      | omega
      | (refine ⟨?_, ?_⟩ <;> omega)
      | rfl
      | (simp; done)
      | (rw [no]; clear no yes; simp_all; done)
      | (refine yes ?_; clear no yes; simp_all; done)
  · simp -dsimp -implicitDefEqProofs only [pick_nil, pick_cons, look_nil, look_cons, dropB_nil, dropB_cons, inD_nil, inD_cons, inE_nil, inE_cons, or_t_l, or_f_l, Nat.reduceBEq, Nat.reduceDiv, Nat.reduceAdd, beq_self_eq_true, Bool.false_eq_true, Bool.or_false, ↓reduceIte, Nat.reduceEqDiff, List.cons_append, List.nil_append]
    simp -dsimp -implicitDefEqProofs only [go_sem, ↓reduceIte, Nat.reduceEqDiff, Nat.reduceLT, Nat.reduceAdd, Nat.reduceMul, Nat.reduceLeDiff, Nat.le_refl, Int.natCast_zero, Int.toNat_natCast, Int.reduceToNat, nlt_len]
    have h3 : xs = ys := by rw [← List.take_length (l := xs), hI, h1, List.take_length]
    simp [h3]
end Go.Vc
/-
  Contracts: impl.eachKey's closure, with the visitor of countKeys.
-/
set_option linter.unusedVariables false
set_option linter.unusedSimpArgs false
set_option linter.unnecessarySimpa false
namespace Go.Vc
open Go.Proofs
set_option maxRecDepth 100000
set_option maxHeartbeats 4000000
theorem vis_C (c : List Int) (ver : Nat) (ys : List AV) (s : Int) (hc : c.length ≤ 6) (hy : ys.take c.length = c.map eI) (hs : 0 ≤ s ∧ s ≤ 1000000) :
    FnH Tryd.prog 81 [(1700000010, .row ver ⟨1, false⟩ true ys), (1500000005, .box 0 [eI s])] [.ref 1700000010 ver 0 c.length, .ptr 1500000005 0 0 0]
      (fun r m' => r = eB (cntF s c).2 ∧ m' = [(1700000010, .row ver ⟨1, false⟩ true ys), (1500000005, .box 0 [eI (cntF s c).1])]) := by
  refine FnH.of_vc 6 [.tmp 3] Tryd.func81 rfl rfl rfl rfl rfl (of_decide_eq_true rfl) ?_
  simp -dsimp -implicitDefEqProofs only [go_sem, ↓reduceIte, Nat.reduceEqDiff, Nat.reduceLT, Nat.reduceAdd, Nat.reduceMul, Nat.reduceLeDiff, Nat.le_refl, Int.natCast_zero, Int.toNat_natCast, Int.reduceToNat]
  refine ⟨⟨by omega, by omega⟩, _, ⟨rfl, rfl⟩, keepsM_of ?_ ?_⟩
  · simp -dsimp -implicitDefEqProofs only [go_sem, ↓reduceIte, Nat.reduceEqDiff, Nat.reduceLT, Nat.reduceAdd, Nat.reduceMul, Nat.reduceLeDiff, Nat.le_refl, Int.natCast_zero, Int.toNat_natCast, Int.reduceToNat, cntF]
  · simp -dsimp -implicitDefEqProofs only [go_sem, ↓reduceIte, Nat.reduceEqDiff, Nat.reduceLT, Nat.reduceAdd, Nat.reduceMul, Nat.reduceLeDiff, Nat.le_refl, Int.natCast_zero, Int.toNat_natCast, Int.reduceToNat]
    simp
theorem cut_C (m : MkM) (hm : isMk m = true) : ∀ (n : Nat) (c : List Int) (t : KS Int), (c.length : Int) + n = m.chambers → (∀ x ∈ c, 0 ≤ x ∧ x ≤ 7) → okZ c t → (0 ≤ t.s ∧ t.s + 8 ^ n ≤ 1000000) →
    FnH Tryd.prog 98 [(1700000008, .box 0 [.ref 1700000010 t.ver 0 c.length]), (1700000010, .row t.ver ⟨1, false⟩ true (t.zs.map eI)), (1700000004, .box 0 [eI m.chambers, eI m.depths, eI m.step, eI m.same, eI m.least]), (1700000007, .box 0 [.clo 81 [.ptr 1500000005 0 0 0]]), (1700000005, .box 0 [.val (.slice none 0 0)]), (1700000006, .box 0 [.val .nilFunc]), (1700000009, .box 0 [.clo 98 [.ptr 1700000008 0 0 0, .ptr 1700000004 0 0 0, .ptr 1700000007 0 0 0, .ptr 1700000005 0 0 0, .ptr 1700000006 0 0 0, .ptr 1700000009 0 0 0]]), (1500000005, .box 0 [eI t.s])] [eB false, .ptr 1700000008 0 0 0, .ptr 1700000004 0 0 0, .ptr 1700000007 0 0 0, .ptr 1700000005 0 0 0, .ptr 1700000006 0 0 0, .ptr 1700000009 0 0 0]
      (fun r m' => r = eB (cutF m cntF n c t).2 ∧ m' = [(1700000008, .box 0 [.ref 1700000010 (cutF m cntF n c t).1.ver 0 c.length]), (1700000010, .row (cutF m cntF n c t).1.ver ⟨1, false⟩ true ((cutF m cntF n c t).1.zs.map eI)), (1700000004, .box 0 [eI m.chambers, eI m.depths, eI m.step, eI m.same, eI m.least]), (1700000007, .box 0 [.clo 81 [.ptr 1500000005 0 0 0]]), (1700000005, .box 0 [.val (.slice none 0 0)]), (1700000006, .box 0 [.val .nilFunc]), (1700000009, .box 0 [.clo 98 [.ptr 1700000008 0 0 0, .ptr 1700000004 0 0 0, .ptr 1700000007 0 0 0, .ptr 1700000005 0 0 0, .ptr 1700000006 0 0 0, .ptr 1700000009 0 0 0]]), (1500000005, .box 0 [eI (cutF m cntF n c t).1.s])]) := by
  intro n
  have ⟨⟨hch1, hch2⟩, hd1, hd2⟩ := isMk_num hm
  induction n with
  | zero =>
    intro c t hl hc hz hs
    have hk : ((c.length : Int) == m.chambers) = true := beq_iff_eq.2 (by omega)
    have ht : List.take c.length (List.map eI t.zs) = List.map eI c := by rw [← List.map_take, hz.1]
    have hzl : c.length ≤ (List.map eI t.zs).length := by simpa using hz.2
    refine FnH.of_vc 91 [.tmp 8] Tryd.func98 rfl rfl rfl rfl rfl (of_decide_eq_true rfl) ?_
    simp -dsimp -implicitDefEqProofs only [go_sem, ↓reduceIte, Nat.reduceEqDiff, Nat.reduceLT, Nat.reduceAdd, Nat.reduceMul, Nat.reduceLeDiff, Nat.le_refl, Int.natCast_zero, Int.toNat_natCast, Int.reduceToNat, hk]
    refine Later.solo 8 mixed rfl ?_
    simp -dsimp -implicitDefEqProofs only [List.take_succ_cons, List.take_zero, List.drop_succ_cons, List.drop_zero]
    have hdif := c_different c (by omega)
    rcases hq : decide ((kindsTo c c.length : Int) < m.least) with _ | _
    · have hq' := of_decide_eq_false hq
      have hcut : cutF m cntF 0 c t = (⟨t.ver, t.zs, (cntF t.s c).1⟩, (cntF t.s c).2) := by rw [cutF, if_neg hq']
      rw [hcut]
      simp -dsimp -implicitDefEqProofs only [go_sem, ↓reduceIte, Nat.reduceEqDiff, Nat.reduceLT, Nat.reduceAdd, Nat.reduceMul, Nat.reduceLeDiff, Nat.le_refl, Int.natCast_zero, Int.toNat_natCast, Int.reduceToNat, hk, ht, List.drop_zero]
      refine ⟨hz.2, ?_⟩
      (refine sCallX_one (hdif) ?_; try simp -dsimp -implicitDefEqProofs only [go_sem, ↓reduceIte, Nat.reduceEqDiff, Nat.reduceLT, Nat.reduceAdd, Nat.reduceMul, Nat.reduceLeDiff, Nat.le_refl, Int.natCast_zero, Int.toNat_natCast, Int.reduceToNat, *])
      refine ⟨by exact rfl, hz.2, ?_⟩
      refine sCallT_H (vis_C c t.ver (t.zs.map eI) t.s (by omega) ht (by omega)) ⟨⟨?_, ?_⟩, ?_, ?_⟩ ?_
      · simp -dsimp -implicitDefEqProofs only [go_sem, ↓reduceIte, Nat.reduceEqDiff, Nat.reduceLT, Nat.reduceAdd, Nat.reduceMul, Nat.reduceLeDiff, Nat.le_refl, Int.natCast_zero, Int.toNat_natCast, Int.reduceToNat]
      · simp -dsimp -implicitDefEqProofs only [go_sem, ↓reduceIte, Nat.reduceEqDiff, Nat.reduceLT, Nat.reduceAdd, Nat.reduceMul, Nat.reduceLeDiff, Nat.le_refl, Int.natCast_zero, Int.toNat_natCast, Int.reduceToNat]
        simp
      · simp -dsimp -implicitDefEqProofs only [go_sem, ↓reduceIte, Nat.reduceEqDiff, Nat.reduceLT, Nat.reduceAdd, Nat.reduceMul, Nat.reduceLeDiff, Nat.le_refl, Int.natCast_zero, Int.toNat_natCast, Int.reduceToNat]
      · simp -dsimp -implicitDefEqProofs only [go_sem, ↓reduceIte, Nat.reduceEqDiff, Nat.reduceLT, Nat.reduceAdd, Nat.reduceMul, Nat.reduceLeDiff, Nat.le_refl, Int.natCast_zero, Int.toNat_natCast, Int.reduceToNat]
        simp
      · rintro r m' ⟨hr, hm'⟩
        rw [hr, hm']
        simp -dsimp -implicitDefEqProofs only [go_sem, ↓reduceIte, Nat.reduceEqDiff, Nat.reduceLT, Nat.reduceAdd, Nat.reduceMul, Nat.reduceLeDiff, Nat.le_refl, Int.natCast_zero, Int.toNat_natCast, Int.reduceToNat]
        refine ⟨_, rfl, keepsM_of ?_ ?_⟩
        · simp -dsimp -implicitDefEqProofs only [go_sem, ↓reduceIte, Nat.reduceEqDiff, Nat.reduceLT, Nat.reduceAdd, Nat.reduceMul, Nat.reduceLeDiff, Nat.le_refl, Int.natCast_zero, Int.toNat_natCast, Int.reduceToNat]
        · simp -dsimp -implicitDefEqProofs only [go_sem, ↓reduceIte, Nat.reduceEqDiff, Nat.reduceLT, Nat.reduceAdd, Nat.reduceMul, Nat.reduceLeDiff, Nat.le_refl, Int.natCast_zero, Int.toNat_natCast, Int.reduceToNat]
          simp [labs, labsL, inLs]
    · have hq' := of_decide_eq_true hq
      have hcut : cutF m cntF 0 c t = (t, true) := by rw [cutF, if_pos hq']
      rw [hcut]
      simp -dsimp -implicitDefEqProofs only [go_sem, ↓reduceIte, Nat.reduceEqDiff, Nat.reduceLT, Nat.reduceAdd, Nat.reduceMul, Nat.reduceLeDiff, Nat.le_refl, Int.natCast_zero, Int.toNat_natCast, Int.reduceToNat, hk, ht, List.drop_zero]
      refine ⟨hz.2, ?_⟩
      (refine sCallX_one (hdif) ?_; try simp -dsimp -implicitDefEqProofs only [go_sem, ↓reduceIte, Nat.reduceEqDiff, Nat.reduceLT, Nat.reduceAdd, Nat.reduceMul, Nat.reduceLeDiff, Nat.le_refl, Int.natCast_zero, Int.toNat_natCast, Int.reduceToNat, *])
      refine ⟨by exact rfl, _, rfl, keepsM_of ?_ ?_⟩
      · simp -dsimp -implicitDefEqProofs only [go_sem, ↓reduceIte, Nat.reduceEqDiff, Nat.reduceLT, Nat.reduceAdd, Nat.reduceMul, Nat.reduceLeDiff, Nat.le_refl, Int.natCast_zero, Int.toNat_natCast, Int.reduceToNat]
      · simp -dsimp -implicitDefEqProofs only [go_sem, ↓reduceIte, Nat.reduceEqDiff, Nat.reduceLT, Nat.reduceAdd, Nat.reduceMul, Nat.reduceLeDiff, Nat.le_refl, Int.natCast_zero, Int.toNat_natCast, Int.reduceToNat]
        simp [labs, labsL, inLs]
  | succ n ih =>
    intro c t hl hc hz hs
    have hk : ((c.length : Int) == m.chambers) = false := beq_eq_false_iff_ne.2 (by omega)
    refine FnH.of_vc 91 [.tmp 8] Tryd.func98 rfl rfl rfl rfl rfl (of_decide_eq_true rfl) ?_
    simp -dsimp -implicitDefEqProofs only [go_sem, ↓reduceIte, Nat.reduceEqDiff, Nat.reduceLT, Nat.reduceAdd, Nat.reduceMul, Nat.reduceLeDiff, Nat.le_refl, Int.natCast_zero, Int.toNat_natCast, Int.reduceToNat, hk]
    refine Later.up [0, 1, 2, 5, 6, 9, 10] [47, 61, 69, 70, 72, 84] [1700000008, 1700000010, 1500000005] m.depths.toNat (fun i => (stN (cutB m cntF n c) t i).2 = true) (fun i => [(11, eI i)]) (fun i => [(1700000008, .box 0 [.ref 1700000010 (stN (cutB m cntF n c) t i).1.ver 0 c.length]), (1700000010, .row (stN (cutB m cntF n c) t i).1.ver ⟨1, false⟩ true ((stN (cutB m cntF n c) t i).1.zs.map eI)), (1500000005, .box 0 [eI (stN (cutB m cntF n c) t i).1.s])]) rfl ?_ rfl (fun i hi hI => ?_) (fun hI => ?_)
    · simp -dsimp -implicitDefEqProofs only [go_sem, ↓reduceIte, Nat.reduceEqDiff, Nat.reduceLT, Nat.reduceAdd, Nat.reduceMul, Nat.reduceLeDiff, Nat.le_refl, Int.natCast_zero, Int.toNat_natCast, Int.reduceToNat]
      simp [stN]
    · have hu : okZ c (stN (cutB m cntF n c) t i).1 := stN_okZ hz i
      have hb := stN_inc hm (cutF_inc hm (f := cntF) (fun s k => ⟨(by show s ≤ s + 1; omega), Int.le_refl _⟩) n) t i (c := c)
      have hp : (0 : Int) < 8 ^ n := Int.pow_pos (by decide)
      have h8 : (i : Int) * 8 ^ n ≤ 7 * 8 ^ n := Int.mul_le_mul_of_nonneg_right (by omega) (by omega)
      have h9 : (8 : Int) ^ (n + 1) = 8 * 8 ^ n := by rw [Int.pow_succ, Int.mul_comm]
      have hlt : decide ((i : Int) < m.depths) = true := decide_eq_true (by omega)
      have hS := stN_succ hI
      have hfin : (cutB m cntF n c i (stN (cutB m cntF n c) t i).1).2 = false → cutF m cntF (n + 1) c t = cutB m cntF n c i (stN (cutB m cntF n c) t i).1 := fun h => by
        rw [← hS] at h ⊢
        rw [cutF_succ, stN_stop h m.depths.toNat (by omega)]
      rw [hS]
      clear hS hI
      generalize (stN (cutB m cntF n c) t i).1 = u at *
      obtain ⟨hu1, hu2⟩ := hu
      have htk : List.take c.length (List.map eI u.zs) = List.map eI c := by rw [← List.map_take, hu1]
      have hbounds : 0 ≤ u.s ∧ u.s + 8 ^ n ≤ 1000000 := by omega
      have hcl : c.length ≤ 6 := by omega
      have hih := ih (c ++ [(i : Int)]) ⟨u.ver + 1, c ++ [(i : Int)], u.s⟩ (by simp; omega) (fun x hx => by
        rcases List.mem_append.1 hx with h | h
        · exact hc x h
        · simp at h; omega) ⟨List.take_length, Nat.le_refl _⟩ hbounds
      simp only [List.length_append, List.length_cons, List.length_nil, Nat.zero_add] at hih
      have hrun := c_sameRun (c ++ [(i : Int)]) (by simp) (by simp; omega)
      simp only [List.length_append, List.length_cons, List.length_nil, Nat.zero_add, Nat.add_sub_cancel] at hrun
      have hmap : List.map eI c ++ [eI (i : Int)] = List.map eI (c ++ [(i : Int)]) := by simp
      have hstep : stepOk m c i = (c.isEmpty || !decide (absN ((i : Int) - c.getD (c.length - 1) 0) > m.step)) := by
        unfold stepOk
        congr 1
        by_cases h : absN ((i : Int) - c.getD (c.length - 1) 0) ≤ m.step
        · rw [decide_eq_true h, decide_eq_false (by omega)]; rfl
        · rw [decide_eq_false h, decide_eq_true (by omega)]; rfl
      have hrunok : runOk m c i = !decide ((runAt (c ++ [(i : Int)]) c.length : Int) > m.same) := by
        unfold runOk
        by_cases h : (runAt (c ++ [(i : Int)]) c.length : Int) ≤ m.same
        · rw [decide_eq_true h, decide_eq_false (by omega)]; rfl
        · rw [decide_eq_false h, decide_eq_true (by omega)]; rfl
      simp -dsimp -implicitDefEqProofs only [pick_nil, pick_cons, look_nil, look_cons, dropB_nil, dropB_cons, inD_nil, inD_cons, inE_nil, inE_cons, or_t_l, or_f_l, Nat.reduceBEq, Nat.reduceDiv, Nat.reduceAdd, beq_self_eq_true, Bool.false_eq_true, Bool.or_false, ↓reduceIte, Nat.reduceEqDiff, List.cons_append, List.nil_append]
      simp -dsimp -implicitDefEqProofs only [go_sem, ↓reduceIte, Nat.reduceEqDiff, Nat.reduceLT, Nat.reduceAdd, Nat.reduceMul, Nat.reduceLeDiff, Nat.le_refl, Int.natCast_zero, Int.toNat_natCast, Int.reduceToNat, hlt]
      refine Later.draw mixed rfl ?_
      have hfn : fnRes Tryd.prog 98 .neq = some false := rfl
      rcases hk0 : decide ((c.length : Int) > 0) with _ | _
      · have hce : c = [] := by
          have := of_decide_eq_false hk0
          exact List.eq_nil_of_length_eq_zero (by omega)
        have hsT : stepOk m c i = true := by rw [hce]; rfl
        clear hce
        simp -dsimp -implicitDefEqProofs only [go_sem, ↓reduceIte, Nat.reduceEqDiff, Nat.reduceLT, Nat.reduceAdd, Nat.reduceMul, Nat.reduceLeDiff, Nat.le_refl, Int.natCast_zero, Int.toNat_natCast, Int.reduceToNat, hfn, hk0]
        refine ⟨by exact rfl, hu2, by omega, ?_⟩
        refine Later.solo 13 mixed rfl ?_
        simp -dsimp -implicitDefEqProofs only [List.take_succ_cons, List.take_zero, List.drop_succ_cons, List.drop_zero]
        have htl : List.take (c.length + 1) (List.map eI (c ++ [(i : Int)])) = List.map eI (c ++ [(i : Int)]) := List.take_of_length_le (by simp)
        rcases hq2 : decide ((runAt (c ++ [(i : Int)]) c.length : Int) > m.same) with _ | _
        · have hcB : cutB m cntF n c i u = cutF m cntF n (c ++ [(i : Int)]) ⟨u.ver + 1, c ++ [(i : Int)], u.s⟩ := by rw [cutB, if_pos hsT, if_pos (by rw [hrunok, hq2]; rfl), hu1]
          rw [hcB] at hfin ⊢
          clear hcB
          generalize cutF m cntF n (c ++ [(i : Int)]) ⟨u.ver + 1, c ++ [(i : Int)], u.s⟩ = w at *
          obtain ⟨w, b⟩ := w
          simp -dsimp -implicitDefEqProofs only [go_sem, ↓reduceIte, Nat.reduceEqDiff, Nat.reduceLT, Nat.reduceAdd, Nat.reduceMul, Nat.reduceLeDiff, Nat.le_refl, Int.natCast_zero, Int.toNat_natCast, Int.reduceToNat, htk, hmap, htl]
          (refine sCallX_one (hrun) ?_; try simp -dsimp -implicitDefEqProofs only [go_sem, ↓reduceIte, Nat.reduceEqDiff, Nat.reduceLT, Nat.reduceAdd, Nat.reduceMul, Nat.reduceLeDiff, Nat.le_refl, Int.natCast_zero, Int.toNat_natCast, Int.reduceToNat, *])
          refine ⟨by exact rfl, ?_⟩
          refine sCallT_H hih ⟨⟨?_, ?_⟩, ?_, ?_⟩ ?_
          · simp -dsimp -implicitDefEqProofs only [go_sem, ↓reduceIte, Nat.reduceEqDiff, Nat.reduceLT, Nat.reduceAdd, Nat.reduceMul, Nat.reduceLeDiff, Nat.le_refl, Int.natCast_zero, Int.toNat_natCast, Int.reduceToNat]
          · simp -dsimp -implicitDefEqProofs only [go_sem, ↓reduceIte, Nat.reduceEqDiff, Nat.reduceLT, Nat.reduceAdd, Nat.reduceMul, Nat.reduceLeDiff, Nat.le_refl, Int.natCast_zero, Int.toNat_natCast, Int.reduceToNat]
            simp [labs, labsL, inLs]
          · simp -dsimp -implicitDefEqProofs only [go_sem, ↓reduceIte, Nat.reduceEqDiff, Nat.reduceLT, Nat.reduceAdd, Nat.reduceMul, Nat.reduceLeDiff, Nat.le_refl, Int.natCast_zero, Int.toNat_natCast, Int.reduceToNat]
          · simp -dsimp -implicitDefEqProofs only [go_sem, ↓reduceIte, Nat.reduceEqDiff, Nat.reduceLT, Nat.reduceAdd, Nat.reduceMul, Nat.reduceLeDiff, Nat.le_refl, Int.natCast_zero, Int.toNat_natCast, Int.reduceToNat]
            simp [labs, labsL, inLs]
          · rintro r m' ⟨hr, hm'⟩
            rw [hr, hm']
            clear hr hm'
            cases b with
            | false =>
              rw [hfin rfl]
              simp -dsimp -implicitDefEqProofs only [go_sem, ↓reduceIte, Nat.reduceEqDiff, Nat.reduceLT, Nat.reduceAdd, Nat.reduceMul, Nat.reduceLeDiff, Nat.le_refl, Int.natCast_zero, Int.toNat_natCast, Int.reduceToNat]
              refine ⟨by omega, _, rfl, keepsM_of ?_ ?_⟩
              · simp -dsimp -implicitDefEqProofs only [go_sem, ↓reduceIte, Nat.reduceEqDiff, Nat.reduceLT, Nat.reduceAdd, Nat.reduceMul, Nat.reduceLeDiff, Nat.le_refl, Int.natCast_zero, Int.toNat_natCast, Int.reduceToNat]
              · simp -dsimp -implicitDefEqProofs only [go_sem, ↓reduceIte, Nat.reduceEqDiff, Nat.reduceLT, Nat.reduceAdd, Nat.reduceMul, Nat.reduceLeDiff, Nat.le_refl, Int.natCast_zero, Int.toNat_natCast, Int.reduceToNat]
                simp [labs, labsL, inLs]
            | true =>
              simp -dsimp -implicitDefEqProofs only [go_sem, ↓reduceIte, Nat.reduceEqDiff, Nat.reduceLT, Nat.reduceAdd, Nat.reduceMul, Nat.reduceLeDiff, Nat.le_refl, Int.natCast_zero, Int.toNat_natCast, Int.reduceToNat]
              exact ⟨by omega, ⟨by omega, by omega⟩, by simp⟩
        · have hcB : cutB m cntF n c i u = (⟨u.ver + 1, c ++ [(i : Int)], u.s⟩, true) := by rw [cutB, if_pos hsT, if_neg (by rw [hrunok, hq2]; exact fun h => by cases h), hu1]
          rw [hcB]
          clear hcB hfin
          simp -dsimp -implicitDefEqProofs only [go_sem, ↓reduceIte, Nat.reduceEqDiff, Nat.reduceLT, Nat.reduceAdd, Nat.reduceMul, Nat.reduceLeDiff, Nat.le_refl, Int.natCast_zero, Int.toNat_natCast, Int.reduceToNat, htk, hmap, htl]
          (refine sCallX_one (hrun) ?_; try simp -dsimp -implicitDefEqProofs only [go_sem, ↓reduceIte, Nat.reduceEqDiff, Nat.reduceLT, Nat.reduceAdd, Nat.reduceMul, Nat.reduceLeDiff, Nat.le_refl, Int.natCast_zero, Int.toNat_natCast, Int.reduceToNat, *])
          exact ⟨by exact rfl, by omega, ⟨by omega, by omega⟩, by simp⟩
      · have hkp := of_decide_eq_true hk0
        have hla : c.getD (c.length - 1) 0 = c[c.length - 1] := by simp [List.getD_eq_getElem?_getD, show c.length - 1 < c.length by omega]
        have hlast : (List.map eI u.zs)[c.length - 1]? = some (eI (c.getD (c.length - 1) 0)) := by
          have h1 : (List.take c.length (List.map eI u.zs))[c.length - 1]? = (List.map eI u.zs)[c.length - 1]? := by rw [List.getElem?_take]; simp; omega
          rw [← h1, htk, hla]; simp [show c.length - 1 < c.length by omega]
        have hlb := hc _ (List.getElem_mem (show c.length - 1 < c.length by omega))
        rw [← hla] at hlb
        generalize c.getD (c.length - 1) 0 = z at *
        clear hla
        have e1 : ((c.length : Int) - 1).toNat = c.length - 1 := by omega
        have habs := c_absolute ((i : Int) - z) (by omega)
        rcases hq : decide (absN ((i : Int) - z) > m.step) with _ | _
        · have hsT : stepOk m c i = true := by rw [hstep, hq]; simp
          simp -dsimp -implicitDefEqProofs only [go_sem, ↓reduceIte, Nat.reduceEqDiff, Nat.reduceLT, Nat.reduceAdd, Nat.reduceMul, Nat.reduceLeDiff, Nat.le_refl, Int.natCast_zero, Int.toNat_natCast, Int.reduceToNat, hfn, hk0, e1, hlast]
          refine ⟨⟨by omega, by omega⟩, ⟨by omega, by omega⟩, ⟨by omega, by omega⟩, ?_⟩
          (refine sCallX_one (habs) ?_; try simp -dsimp -implicitDefEqProofs only [go_sem, ↓reduceIte, Nat.reduceEqDiff, Nat.reduceLT, Nat.reduceAdd, Nat.reduceMul, Nat.reduceLeDiff, Nat.le_refl, Int.natCast_zero, Int.toNat_natCast, Int.reduceToNat, *])
          refine ⟨by exact rfl, by omega, ?_⟩
          refine Later.solo 13 mixed rfl ?_
          simp -dsimp -implicitDefEqProofs only [List.take_succ_cons, List.take_zero, List.drop_succ_cons, List.drop_zero]
          have htl : List.take (c.length + 1) (List.map eI (c ++ [(i : Int)])) = List.map eI (c ++ [(i : Int)]) := List.take_of_length_le (by simp)
          rcases hq2 : decide ((runAt (c ++ [(i : Int)]) c.length : Int) > m.same) with _ | _
          · have hcB : cutB m cntF n c i u = cutF m cntF n (c ++ [(i : Int)]) ⟨u.ver + 1, c ++ [(i : Int)], u.s⟩ := by rw [cutB, if_pos hsT, if_pos (by rw [hrunok, hq2]; rfl), hu1]
            rw [hcB] at hfin ⊢
            clear hcB
            generalize cutF m cntF n (c ++ [(i : Int)]) ⟨u.ver + 1, c ++ [(i : Int)], u.s⟩ = w at *
            obtain ⟨w, b⟩ := w
            simp -dsimp -implicitDefEqProofs only [go_sem, ↓reduceIte, Nat.reduceEqDiff, Nat.reduceLT, Nat.reduceAdd, Nat.reduceMul, Nat.reduceLeDiff, Nat.le_refl, Int.natCast_zero, Int.toNat_natCast, Int.reduceToNat, htk, hmap, htl]
            (refine sCallX_one (hrun) ?_; try simp -dsimp -implicitDefEqProofs only [go_sem, ↓reduceIte, Nat.reduceEqDiff, Nat.reduceLT, Nat.reduceAdd, Nat.reduceMul, Nat.reduceLeDiff, Nat.le_refl, Int.natCast_zero, Int.toNat_natCast, Int.reduceToNat, *])
            refine ⟨by exact rfl, ?_⟩
            refine sCallT_H hih ⟨⟨?_, ?_⟩, ?_, ?_⟩ ?_
            · simp -dsimp -implicitDefEqProofs only [go_sem, ↓reduceIte, Nat.reduceEqDiff, Nat.reduceLT, Nat.reduceAdd, Nat.reduceMul, Nat.reduceLeDiff, Nat.le_refl, Int.natCast_zero, Int.toNat_natCast, Int.reduceToNat]
            · simp -dsimp -implicitDefEqProofs only [go_sem, ↓reduceIte, Nat.reduceEqDiff, Nat.reduceLT, Nat.reduceAdd, Nat.reduceMul, Nat.reduceLeDiff, Nat.le_refl, Int.natCast_zero, Int.toNat_natCast, Int.reduceToNat]
              simp [labs, labsL, inLs]
            · simp -dsimp -implicitDefEqProofs only [go_sem, ↓reduceIte, Nat.reduceEqDiff, Nat.reduceLT, Nat.reduceAdd, Nat.reduceMul, Nat.reduceLeDiff, Nat.le_refl, Int.natCast_zero, Int.toNat_natCast, Int.reduceToNat]
            · simp -dsimp -implicitDefEqProofs only [go_sem, ↓reduceIte, Nat.reduceEqDiff, Nat.reduceLT, Nat.reduceAdd, Nat.reduceMul, Nat.reduceLeDiff, Nat.le_refl, Int.natCast_zero, Int.toNat_natCast, Int.reduceToNat]
              simp [labs, labsL, inLs]
            · rintro r m' ⟨hr, hm'⟩
              rw [hr, hm']
              clear hr hm'
              cases b with
              | false =>
                rw [hfin rfl]
                simp -dsimp -implicitDefEqProofs only [go_sem, ↓reduceIte, Nat.reduceEqDiff, Nat.reduceLT, Nat.reduceAdd, Nat.reduceMul, Nat.reduceLeDiff, Nat.le_refl, Int.natCast_zero, Int.toNat_natCast, Int.reduceToNat]
                refine ⟨by omega, _, rfl, keepsM_of ?_ ?_⟩
                · simp -dsimp -implicitDefEqProofs only [go_sem, ↓reduceIte, Nat.reduceEqDiff, Nat.reduceLT, Nat.reduceAdd, Nat.reduceMul, Nat.reduceLeDiff, Nat.le_refl, Int.natCast_zero, Int.toNat_natCast, Int.reduceToNat]
                · simp -dsimp -implicitDefEqProofs only [go_sem, ↓reduceIte, Nat.reduceEqDiff, Nat.reduceLT, Nat.reduceAdd, Nat.reduceMul, Nat.reduceLeDiff, Nat.le_refl, Int.natCast_zero, Int.toNat_natCast, Int.reduceToNat]
                  simp [labs, labsL, inLs]
              | true =>
                simp -dsimp -implicitDefEqProofs only [go_sem, ↓reduceIte, Nat.reduceEqDiff, Nat.reduceLT, Nat.reduceAdd, Nat.reduceMul, Nat.reduceLeDiff, Nat.le_refl, Int.natCast_zero, Int.toNat_natCast, Int.reduceToNat]
                exact ⟨by omega, ⟨by omega, by omega⟩, by simp⟩
          · have hcB : cutB m cntF n c i u = (⟨u.ver + 1, c ++ [(i : Int)], u.s⟩, true) := by rw [cutB, if_pos hsT, if_neg (by rw [hrunok, hq2]; exact fun h => by cases h), hu1]
            rw [hcB]
            clear hcB hfin
            simp -dsimp -implicitDefEqProofs only [go_sem, ↓reduceIte, Nat.reduceEqDiff, Nat.reduceLT, Nat.reduceAdd, Nat.reduceMul, Nat.reduceLeDiff, Nat.le_refl, Int.natCast_zero, Int.toNat_natCast, Int.reduceToNat, htk, hmap, htl]
            (refine sCallX_one (hrun) ?_; try simp -dsimp -implicitDefEqProofs only [go_sem, ↓reduceIte, Nat.reduceEqDiff, Nat.reduceLT, Nat.reduceAdd, Nat.reduceMul, Nat.reduceLeDiff, Nat.le_refl, Int.natCast_zero, Int.toNat_natCast, Int.reduceToNat, *])
            exact ⟨by exact rfl, by omega, ⟨by omega, by omega⟩, by simp⟩
        · have hsF : stepOk m c i = false := by
            rw [hstep, hq]
            cases c with
            | nil => simp at hkp
            | cons => rfl
          have hcB : cutB m cntF n c i u = (u, true) := by rw [cutB, if_neg (by rw [hsF]; exact fun h => by cases h)]
          rw [hcB]
          clear hcB hfin
          simp -dsimp -implicitDefEqProofs only [go_sem, ↓reduceIte, Nat.reduceEqDiff, Nat.reduceLT, Nat.reduceAdd, Nat.reduceMul, Nat.reduceLeDiff, Nat.le_refl, Int.natCast_zero, Int.toNat_natCast, Int.reduceToNat, hfn, hk0, e1, hlast]
          refine ⟨⟨by omega, by omega⟩, ⟨by omega, by omega⟩, ⟨by omega, by omega⟩, ?_⟩
          (refine sCallX_one (habs) ?_; try simp -dsimp -implicitDefEqProofs only [go_sem, ↓reduceIte, Nat.reduceEqDiff, Nat.reduceLT, Nat.reduceAdd, Nat.reduceMul, Nat.reduceLeDiff, Nat.le_refl, Int.natCast_zero, Int.toNat_natCast, Int.reduceToNat, *])
          exact ⟨by exact rfl, ⟨by omega, by omega⟩, by simp⟩
    · simp -dsimp -implicitDefEqProofs only [pick_nil, pick_cons, look_nil, look_cons, dropB_nil, dropB_cons, inD_nil, inD_cons, inE_nil, inE_cons, or_t_l, or_f_l, Nat.reduceBEq, Nat.reduceDiv, Nat.reduceAdd, beq_self_eq_true, Bool.false_eq_true, Bool.or_false, ↓reduceIte, Nat.reduceEqDiff, List.cons_append, List.nil_append]
      have hlt : decide (((m.depths.toNat : Nat) : Int) < m.depths) = false := decide_eq_false (by omega)
      simp -dsimp -implicitDefEqProofs only [go_sem, ↓reduceIte, Nat.reduceEqDiff, Nat.reduceLT, Nat.reduceAdd, Nat.reduceMul, Nat.reduceLeDiff, Nat.le_refl, Int.natCast_zero, Int.toNat_natCast, Int.reduceToNat, hlt]
      rw [cutF_succ]
      refine ⟨_, ⟨by rw [hI], rfl⟩, keepsM_of ?_ ?_⟩
      · simp -dsimp -implicitDefEqProofs only [go_sem, ↓reduceIte, Nat.reduceEqDiff, Nat.reduceLT, Nat.reduceAdd, Nat.reduceMul, Nat.reduceLeDiff, Nat.le_refl, Int.natCast_zero, Int.toNat_natCast, Int.reduceToNat]
      · simp -dsimp -implicitDefEqProofs only [go_sem, ↓reduceIte, Nat.reduceEqDiff, Nat.reduceLT, Nat.reduceAdd, Nat.reduceMul, Nat.reduceLeDiff, Nat.le_refl, Int.natCast_zero, Int.toNat_natCast, Int.reduceToNat]
        simp [labs, labsL, inLs]
end Go.Vc
/-
  Contracts: impl.eachKey's closure, with the visitor of RankOf.
-/
set_option linter.unusedVariables false
set_option linter.unusedSimpArgs false
set_option linter.unnecessarySimpa false
namespace Go.Vc
open Go.Proofs
set_option maxRecDepth 100000
set_option maxHeartbeats 4000000
theorem vis_R (key : List Int) (hkey : key.length ≤ 1048576) (c : List Int) (ver : Nat) (ys : List AV) (s : Int) (hc : c.length ≤ 6) (hy : ys.take c.length = c.map eI) (hs : 0 ≤ s ∧ s ≤ 1000000) :
    FnH Tryd.prog 79 [(1700000010, .row ver ⟨1, false⟩ true ys), (1500000003, .box 0 [eIs key]), (1500000007, .box 0 [eI s])] [.ref 1700000010 ver 0 c.length, .ptr 1500000003 0 0 0, .ptr 1500000007 0 0 0]
      (fun r m' => r = eB ((rankF key) s c).2 ∧ m' = [(1700000010, .row ver ⟨1, false⟩ true ys), (1500000003, .box 0 [eIs key]), (1500000007, .box 0 [eI ((rankF key) s c).1])]) := by
  refine FnH.of_vc 10 [.tmp 4] Tryd.func79 rfl rfl rfl rfl rfl (of_decide_eq_true rfl) ?_
  have heq := c_EqualI c key (by omega)
  have hyl : c.length ≤ ys.length := by
    have := congrArg List.length hy
    simp at this; omega
  by_cases hk : c = key
  · rw [decide_eq_true hk] at heq
    have hr : rankF key s c = (s, false) := if_pos hk
    rw [hr]
    clear hr hk
    simp -dsimp -implicitDefEqProofs only [go_sem, ↓reduceIte, Nat.reduceEqDiff, Nat.reduceLT, Nat.reduceAdd, Nat.reduceMul, Nat.reduceLeDiff, Nat.le_refl, Int.natCast_zero, Int.toNat_natCast, Int.reduceToNat, hy]
    repeat' first
      | (with_reducible refine And.intro ?_ ?_)
      | (refine sCallT_one (heq) ?_; try simp -dsimp -implicitDefEqProofs only [go_sem, ↓reduceIte, Nat.reduceEqDiff, Nat.reduceLT, Nat.reduceAdd, Nat.reduceMul, Nat.reduceLeDiff, Nat.le_refl, Int.natCast_zero, Int.toNat_natCast, Int.reduceToNat, *])
    all_goals first
      | exact hyl
      | (refine ⟨_, rfl, keepsM_of ?_ ?_⟩
         · simp -dsimp -implicitDefEqProofs only [go_sem, ↓reduceIte, Nat.reduceEqDiff, Nat.reduceLT, Nat.reduceAdd, Nat.reduceMul, Nat.reduceLeDiff, Nat.le_refl, Int.natCast_zero, Int.toNat_natCast, Int.reduceToNat]
         · simp -dsimp -implicitDefEqProofs only [go_sem, ↓reduceIte, Nat.reduceEqDiff, Nat.reduceLT, Nat.reduceAdd, Nat.reduceMul, Nat.reduceLeDiff, Nat.le_refl, Int.natCast_zero, Int.toNat_natCast, Int.reduceToNat]
           simp [labs, labsL, inLs])
      | trace_state
  · rw [decide_eq_false hk] at heq
    have hr : rankF key s c = (s + 1, true) := if_neg hk
    rw [hr]
    clear hr hk
    simp -dsimp -implicitDefEqProofs only [go_sem, ↓reduceIte, Nat.reduceEqDiff, Nat.reduceLT, Nat.reduceAdd, Nat.reduceMul, Nat.reduceLeDiff, Nat.le_refl, Int.natCast_zero, Int.toNat_natCast, Int.reduceToNat, hy]
    repeat' first
      | (with_reducible refine And.intro ?_ ?_)
      | (refine sCallT_one (heq) ?_; try simp -dsimp -implicitDefEqProofs only [go_sem, ↓reduceIte, Nat.reduceEqDiff, Nat.reduceLT, Nat.reduceAdd, Nat.reduceMul, Nat.reduceLeDiff, Nat.le_refl, Int.natCast_zero, Int.toNat_natCast, Int.reduceToNat, *])
    all_goals first
      | exact hyl
      | exact ⟨by omega, by omega⟩
      | (refine ⟨_, rfl, keepsM_of ?_ ?_⟩
         · simp -dsimp -implicitDefEqProofs only [go_sem, ↓reduceIte, Nat.reduceEqDiff, Nat.reduceLT, Nat.reduceAdd, Nat.reduceMul, Nat.reduceLeDiff, Nat.le_refl, Int.natCast_zero, Int.toNat_natCast, Int.reduceToNat]
         · simp -dsimp -implicitDefEqProofs only [go_sem, ↓reduceIte, Nat.reduceEqDiff, Nat.reduceLT, Nat.reduceAdd, Nat.reduceMul, Nat.reduceLeDiff, Nat.le_refl, Int.natCast_zero, Int.toNat_natCast, Int.reduceToNat]
           simp [labs, labsL, inLs])
      | trace_state
theorem cut_R (key : List Int) (hkey : key.length ≤ 1048576) (m : MkM) (hm : isMk m = true) : ∀ (n : Nat) (c : List Int) (t : KS Int), (c.length : Int) + n = m.chambers → (∀ x ∈ c, 0 ≤ x ∧ x ≤ 7) → okZ c t → (0 ≤ t.s ∧ t.s + 8 ^ n ≤ 1000000) →
    FnH Tryd.prog 98 [(1700000008, .box 0 [.ref 1700000010 t.ver 0 c.length]), (1700000010, .row t.ver ⟨1, false⟩ true (t.zs.map eI)), (1700000004, .box 0 [eI m.chambers, eI m.depths, eI m.step, eI m.same, eI m.least]), (1700000007, .box 0 [.clo 79 [.ptr 1500000003 0 0 0, .ptr 1500000007 0 0 0]]), (1700000005, .box 0 [.val (.slice none 0 0)]), (1700000006, .box 0 [.val .nilFunc]), (1700000009, .box 0 [.clo 98 [.ptr 1700000008 0 0 0, .ptr 1700000004 0 0 0, .ptr 1700000007 0 0 0, .ptr 1700000005 0 0 0, .ptr 1700000006 0 0 0, .ptr 1700000009 0 0 0]]), (1500000003, .box 0 [eIs key]), (1500000007, .box 0 [eI t.s])] [eB false, .ptr 1700000008 0 0 0, .ptr 1700000004 0 0 0, .ptr 1700000007 0 0 0, .ptr 1700000005 0 0 0, .ptr 1700000006 0 0 0, .ptr 1700000009 0 0 0]
      (fun r m' => r = eB (cutF m (rankF key) n c t).2 ∧ m' = [(1700000008, .box 0 [.ref 1700000010 (cutF m (rankF key) n c t).1.ver 0 c.length]), (1700000010, .row (cutF m (rankF key) n c t).1.ver ⟨1, false⟩ true ((cutF m (rankF key) n c t).1.zs.map eI)), (1700000004, .box 0 [eI m.chambers, eI m.depths, eI m.step, eI m.same, eI m.least]), (1700000007, .box 0 [.clo 79 [.ptr 1500000003 0 0 0, .ptr 1500000007 0 0 0]]), (1700000005, .box 0 [.val (.slice none 0 0)]), (1700000006, .box 0 [.val .nilFunc]), (1700000009, .box 0 [.clo 98 [.ptr 1700000008 0 0 0, .ptr 1700000004 0 0 0, .ptr 1700000007 0 0 0, .ptr 1700000005 0 0 0, .ptr 1700000006 0 0 0, .ptr 1700000009 0 0 0]]), (1500000003, .box 0 [eIs key]), (1500000007, .box 0 [eI (cutF m (rankF key) n c t).1.s])]) := by
  intro n
  have ⟨⟨hch1, hch2⟩, hd1, hd2⟩ := isMk_num hm
  induction n with
  | zero =>
    intro c t hl hc hz hs
    have hk : ((c.length : Int) == m.chambers) = true := beq_iff_eq.2 (by omega)
    have ht : List.take c.length (List.map eI t.zs) = List.map eI c := by rw [← List.map_take, hz.1]
    have hzl : c.length ≤ (List.map eI t.zs).length := by simpa using hz.2
    refine FnH.of_vc 91 [.tmp 8] Tryd.func98 rfl rfl rfl rfl rfl (of_decide_eq_true rfl) ?_
    simp -dsimp -implicitDefEqProofs only [go_sem, ↓reduceIte, Nat.reduceEqDiff, Nat.reduceLT, Nat.reduceAdd, Nat.reduceMul, Nat.reduceLeDiff, Nat.le_refl, Int.natCast_zero, Int.toNat_natCast, Int.reduceToNat, hk]
    refine Later.solo 8 mixed rfl ?_
    simp -dsimp -implicitDefEqProofs only [List.take_succ_cons, List.take_zero, List.drop_succ_cons, List.drop_zero]
    have hdif := c_different c (by omega)
    rcases hq : decide ((kindsTo c c.length : Int) < m.least) with _ | _
    · have hq' := of_decide_eq_false hq
      have hcut : cutF m (rankF key) 0 c t = (⟨t.ver, t.zs, ((rankF key) t.s c).1⟩, ((rankF key) t.s c).2) := by rw [cutF, if_neg hq']
      rw [hcut]
      simp -dsimp -implicitDefEqProofs only [go_sem, ↓reduceIte, Nat.reduceEqDiff, Nat.reduceLT, Nat.reduceAdd, Nat.reduceMul, Nat.reduceLeDiff, Nat.le_refl, Int.natCast_zero, Int.toNat_natCast, Int.reduceToNat, hk, ht, List.drop_zero]
      refine ⟨hz.2, ?_⟩
      (refine sCallX_one (hdif) ?_; try simp -dsimp -implicitDefEqProofs only [go_sem, ↓reduceIte, Nat.reduceEqDiff, Nat.reduceLT, Nat.reduceAdd, Nat.reduceMul, Nat.reduceLeDiff, Nat.le_refl, Int.natCast_zero, Int.toNat_natCast, Int.reduceToNat, *])
      refine ⟨by exact rfl, hz.2, ?_⟩
      refine sCallT_H (vis_R key hkey c t.ver (t.zs.map eI) t.s (by omega) ht (by omega)) ⟨⟨?_, ?_⟩, ?_, ?_⟩ ?_
      · simp -dsimp -implicitDefEqProofs only [go_sem, ↓reduceIte, Nat.reduceEqDiff, Nat.reduceLT, Nat.reduceAdd, Nat.reduceMul, Nat.reduceLeDiff, Nat.le_refl, Int.natCast_zero, Int.toNat_natCast, Int.reduceToNat]
      · simp -dsimp -implicitDefEqProofs only [go_sem, ↓reduceIte, Nat.reduceEqDiff, Nat.reduceLT, Nat.reduceAdd, Nat.reduceMul, Nat.reduceLeDiff, Nat.le_refl, Int.natCast_zero, Int.toNat_natCast, Int.reduceToNat]
        simp
      · simp -dsimp -implicitDefEqProofs only [go_sem, ↓reduceIte, Nat.reduceEqDiff, Nat.reduceLT, Nat.reduceAdd, Nat.reduceMul, Nat.reduceLeDiff, Nat.le_refl, Int.natCast_zero, Int.toNat_natCast, Int.reduceToNat]
      · simp -dsimp -implicitDefEqProofs only [go_sem, ↓reduceIte, Nat.reduceEqDiff, Nat.reduceLT, Nat.reduceAdd, Nat.reduceMul, Nat.reduceLeDiff, Nat.le_refl, Int.natCast_zero, Int.toNat_natCast, Int.reduceToNat]
        simp
      · rintro r m' ⟨hr, hm'⟩
        rw [hr, hm']
        simp -dsimp -implicitDefEqProofs only [go_sem, ↓reduceIte, Nat.reduceEqDiff, Nat.reduceLT, Nat.reduceAdd, Nat.reduceMul, Nat.reduceLeDiff, Nat.le_refl, Int.natCast_zero, Int.toNat_natCast, Int.reduceToNat]
        refine ⟨_, rfl, keepsM_of ?_ ?_⟩
        · simp -dsimp -implicitDefEqProofs only [go_sem, ↓reduceIte, Nat.reduceEqDiff, Nat.reduceLT, Nat.reduceAdd, Nat.reduceMul, Nat.reduceLeDiff, Nat.le_refl, Int.natCast_zero, Int.toNat_natCast, Int.reduceToNat]
        · simp -dsimp -implicitDefEqProofs only [go_sem, ↓reduceIte, Nat.reduceEqDiff, Nat.reduceLT, Nat.reduceAdd, Nat.reduceMul, Nat.reduceLeDiff, Nat.le_refl, Int.natCast_zero, Int.toNat_natCast, Int.reduceToNat]
          simp [labs, labsL, inLs]
    · have hq' := of_decide_eq_true hq
      have hcut : cutF m (rankF key) 0 c t = (t, true) := by rw [cutF, if_pos hq']
      rw [hcut]
      simp -dsimp -implicitDefEqProofs only [go_sem, ↓reduceIte, Nat.reduceEqDiff, Nat.reduceLT, Nat.reduceAdd, Nat.reduceMul, Nat.reduceLeDiff, Nat.le_refl, Int.natCast_zero, Int.toNat_natCast, Int.reduceToNat, hk, ht, List.drop_zero]
      refine ⟨hz.2, ?_⟩
      (refine sCallX_one (hdif) ?_; try simp -dsimp -implicitDefEqProofs only [go_sem, ↓reduceIte, Nat.reduceEqDiff, Nat.reduceLT, Nat.reduceAdd, Nat.reduceMul, Nat.reduceLeDiff, Nat.le_refl, Int.natCast_zero, Int.toNat_natCast, Int.reduceToNat, *])
      refine ⟨by exact rfl, _, rfl, keepsM_of ?_ ?_⟩
      · simp -dsimp -implicitDefEqProofs only [go_sem, ↓reduceIte, Nat.reduceEqDiff, Nat.reduceLT, Nat.reduceAdd, Nat.reduceMul, Nat.reduceLeDiff, Nat.le_refl, Int.natCast_zero, Int.toNat_natCast, Int.reduceToNat]
      · simp -dsimp -implicitDefEqProofs only [go_sem, ↓reduceIte, Nat.reduceEqDiff, Nat.reduceLT, Nat.reduceAdd, Nat.reduceMul, Nat.reduceLeDiff, Nat.le_refl, Int.natCast_zero, Int.toNat_natCast, Int.reduceToNat]
        simp [labs, labsL, inLs]
  | succ n ih =>
    intro c t hl hc hz hs
    have hk : ((c.length : Int) == m.chambers) = false := beq_eq_false_iff_ne.2 (by omega)
    refine FnH.of_vc 91 [.tmp 8] Tryd.func98 rfl rfl rfl rfl rfl (of_decide_eq_true rfl) ?_
    simp -dsimp -implicitDefEqProofs only [go_sem, ↓reduceIte, Nat.reduceEqDiff, Nat.reduceLT, Nat.reduceAdd, Nat.reduceMul, Nat.reduceLeDiff, Nat.le_refl, Int.natCast_zero, Int.toNat_natCast, Int.reduceToNat, hk]
    refine Later.up [0, 1, 2, 5, 6, 9, 10] [47, 61, 69, 70, 72, 84] [1700000008, 1700000010, 1500000007] m.depths.toNat (fun i => (stN (cutB m (rankF key) n c) t i).2 = true) (fun i => [(11, eI i)]) (fun i => [(1700000008, .box 0 [.ref 1700000010 (stN (cutB m (rankF key) n c) t i).1.ver 0 c.length]), (1700000010, .row (stN (cutB m (rankF key) n c) t i).1.ver ⟨1, false⟩ true ((stN (cutB m (rankF key) n c) t i).1.zs.map eI)), (1500000007, .box 0 [eI (stN (cutB m (rankF key) n c) t i).1.s])]) rfl ?_ rfl (fun i hi hI => ?_) (fun hI => ?_)
    · simp -dsimp -implicitDefEqProofs only [go_sem, ↓reduceIte, Nat.reduceEqDiff, Nat.reduceLT, Nat.reduceAdd, Nat.reduceMul, Nat.reduceLeDiff, Nat.le_refl, Int.natCast_zero, Int.toNat_natCast, Int.reduceToNat]
      simp [stN]
    · have hu : okZ c (stN (cutB m (rankF key) n c) t i).1 := stN_okZ hz i
      have hb := stN_inc hm (cutF_inc hm (f := (rankF key)) (fun s k => by unfold rankF; split; exact ⟨Int.le_refl _, (by show s ≤ s + 1; omega)⟩; exact ⟨(by show s ≤ s + 1; omega), Int.le_refl _⟩) n) t i (c := c)
      have hp : (0 : Int) < 8 ^ n := Int.pow_pos (by decide)
      have h8 : (i : Int) * 8 ^ n ≤ 7 * 8 ^ n := Int.mul_le_mul_of_nonneg_right (by omega) (by omega)
      have h9 : (8 : Int) ^ (n + 1) = 8 * 8 ^ n := by rw [Int.pow_succ, Int.mul_comm]
      have hlt : decide ((i : Int) < m.depths) = true := decide_eq_true (by omega)
      have hS := stN_succ hI
      have hfin : (cutB m (rankF key) n c i (stN (cutB m (rankF key) n c) t i).1).2 = false → cutF m (rankF key) (n + 1) c t = cutB m (rankF key) n c i (stN (cutB m (rankF key) n c) t i).1 := fun h => by
        rw [← hS] at h ⊢
        rw [cutF_succ, stN_stop h m.depths.toNat (by omega)]
      rw [hS]
      clear hS hI
      generalize (stN (cutB m (rankF key) n c) t i).1 = u at *
      obtain ⟨hu1, hu2⟩ := hu
      have htk : List.take c.length (List.map eI u.zs) = List.map eI c := by rw [← List.map_take, hu1]
      have hbounds : 0 ≤ u.s ∧ u.s + 8 ^ n ≤ 1000000 := by omega
      have hcl : c.length ≤ 6 := by omega
      have hih := ih (c ++ [(i : Int)]) ⟨u.ver + 1, c ++ [(i : Int)], u.s⟩ (by simp; omega) (fun x hx => by
        rcases List.mem_append.1 hx with h | h
        · exact hc x h
        · simp at h; omega) ⟨List.take_length, Nat.le_refl _⟩ hbounds
      simp only [List.length_append, List.length_cons, List.length_nil, Nat.zero_add] at hih
      have hrun := c_sameRun (c ++ [(i : Int)]) (by simp) (by simp; omega)
      simp only [List.length_append, List.length_cons, List.length_nil, Nat.zero_add, Nat.add_sub_cancel] at hrun
      have hmap : List.map eI c ++ [eI (i : Int)] = List.map eI (c ++ [(i : Int)]) := by simp
      have hstep : stepOk m c i = (c.isEmpty || !decide (absN ((i : Int) - c.getD (c.length - 1) 0) > m.step)) := by
        unfold stepOk
        congr 1
        by_cases h : absN ((i : Int) - c.getD (c.length - 1) 0) ≤ m.step
        · rw [decide_eq_true h, decide_eq_false (by omega)]; rfl
        · rw [decide_eq_false h, decide_eq_true (by omega)]; rfl
      have hrunok : runOk m c i = !decide ((runAt (c ++ [(i : Int)]) c.length : Int) > m.same) := by
        unfold runOk
        by_cases h : (runAt (c ++ [(i : Int)]) c.length : Int) ≤ m.same
        · rw [decide_eq_true h, decide_eq_false (by omega)]; rfl
        · rw [decide_eq_false h, decide_eq_true (by omega)]; rfl
      simp -dsimp -implicitDefEqProofs only [pick_nil, pick_cons, look_nil, look_cons, dropB_nil, dropB_cons, inD_nil, inD_cons, inE_nil, inE_cons, or_t_l, or_f_l, Nat.reduceBEq, Nat.reduceDiv, Nat.reduceAdd, beq_self_eq_true, Bool.false_eq_true, Bool.or_false, ↓reduceIte, Nat.reduceEqDiff, List.cons_append, List.nil_append]
      simp -dsimp -implicitDefEqProofs only [go_sem, ↓reduceIte, Nat.reduceEqDiff, Nat.reduceLT, Nat.reduceAdd, Nat.reduceMul, Nat.reduceLeDiff, Nat.le_refl, Int.natCast_zero, Int.toNat_natCast, Int.reduceToNat, hlt]
      refine Later.draw mixed rfl ?_
      have hfn : fnRes Tryd.prog 98 .neq = some false := rfl
      rcases hk0 : decide ((c.length : Int) > 0) with _ | _
      · have hce : c = [] := by
          have := of_decide_eq_false hk0
          exact List.eq_nil_of_length_eq_zero (by omega)
        have hsT : stepOk m c i = true := by rw [hce]; rfl
        clear hce
        simp -dsimp -implicitDefEqProofs only [go_sem, ↓reduceIte, Nat.reduceEqDiff, Nat.reduceLT, Nat.reduceAdd, Nat.reduceMul, Nat.reduceLeDiff, Nat.le_refl, Int.natCast_zero, Int.toNat_natCast, Int.reduceToNat, hfn, hk0]
        refine ⟨by exact rfl, hu2, by omega, ?_⟩
        refine Later.solo 13 mixed rfl ?_
        simp -dsimp -implicitDefEqProofs only [List.take_succ_cons, List.take_zero, List.drop_succ_cons, List.drop_zero]
        have htl : List.take (c.length + 1) (List.map eI (c ++ [(i : Int)])) = List.map eI (c ++ [(i : Int)]) := List.take_of_length_le (by simp)
        rcases hq2 : decide ((runAt (c ++ [(i : Int)]) c.length : Int) > m.same) with _ | _
        · have hcB : cutB m (rankF key) n c i u = cutF m (rankF key) n (c ++ [(i : Int)]) ⟨u.ver + 1, c ++ [(i : Int)], u.s⟩ := by rw [cutB, if_pos hsT, if_pos (by rw [hrunok, hq2]; rfl), hu1]
          rw [hcB] at hfin ⊢
          clear hcB
          generalize cutF m (rankF key) n (c ++ [(i : Int)]) ⟨u.ver + 1, c ++ [(i : Int)], u.s⟩ = w at *
          obtain ⟨w, b⟩ := w
          simp -dsimp -implicitDefEqProofs only [go_sem, ↓reduceIte, Nat.reduceEqDiff, Nat.reduceLT, Nat.reduceAdd, Nat.reduceMul, Nat.reduceLeDiff, Nat.le_refl, Int.natCast_zero, Int.toNat_natCast, Int.reduceToNat, htk, hmap, htl]
          (refine sCallX_one (hrun) ?_; try simp -dsimp -implicitDefEqProofs only [go_sem, ↓reduceIte, Nat.reduceEqDiff, Nat.reduceLT, Nat.reduceAdd, Nat.reduceMul, Nat.reduceLeDiff, Nat.le_refl, Int.natCast_zero, Int.toNat_natCast, Int.reduceToNat, *])
          refine ⟨by exact rfl, ?_⟩
          refine sCallT_H hih ⟨⟨?_, ?_⟩, ?_, ?_⟩ ?_
          · simp -dsimp -implicitDefEqProofs only [go_sem, ↓reduceIte, Nat.reduceEqDiff, Nat.reduceLT, Nat.reduceAdd, Nat.reduceMul, Nat.reduceLeDiff, Nat.le_refl, Int.natCast_zero, Int.toNat_natCast, Int.reduceToNat]
          · simp -dsimp -implicitDefEqProofs only [go_sem, ↓reduceIte, Nat.reduceEqDiff, Nat.reduceLT, Nat.reduceAdd, Nat.reduceMul, Nat.reduceLeDiff, Nat.le_refl, Int.natCast_zero, Int.toNat_natCast, Int.reduceToNat]
            simp [labs, labsL, inLs]
          · simp -dsimp -implicitDefEqProofs only [go_sem, ↓reduceIte, Nat.reduceEqDiff, Nat.reduceLT, Nat.reduceAdd, Nat.reduceMul, Nat.reduceLeDiff, Nat.le_refl, Int.natCast_zero, Int.toNat_natCast, Int.reduceToNat]
          · simp -dsimp -implicitDefEqProofs only [go_sem, ↓reduceIte, Nat.reduceEqDiff, Nat.reduceLT, Nat.reduceAdd, Nat.reduceMul, Nat.reduceLeDiff, Nat.le_refl, Int.natCast_zero, Int.toNat_natCast, Int.reduceToNat]
            simp [labs, labsL, inLs]
          · rintro r m' ⟨hr, hm'⟩
            rw [hr, hm']
            clear hr hm'
            cases b with
            | false =>
              rw [hfin rfl]
              simp -dsimp -implicitDefEqProofs only [go_sem, ↓reduceIte, Nat.reduceEqDiff, Nat.reduceLT, Nat.reduceAdd, Nat.reduceMul, Nat.reduceLeDiff, Nat.le_refl, Int.natCast_zero, Int.toNat_natCast, Int.reduceToNat]
              refine ⟨by omega, _, rfl, keepsM_of ?_ ?_⟩
              · simp -dsimp -implicitDefEqProofs only [go_sem, ↓reduceIte, Nat.reduceEqDiff, Nat.reduceLT, Nat.reduceAdd, Nat.reduceMul, Nat.reduceLeDiff, Nat.le_refl, Int.natCast_zero, Int.toNat_natCast, Int.reduceToNat]
              · simp -dsimp -implicitDefEqProofs only [go_sem, ↓reduceIte, Nat.reduceEqDiff, Nat.reduceLT, Nat.reduceAdd, Nat.reduceMul, Nat.reduceLeDiff, Nat.le_refl, Int.natCast_zero, Int.toNat_natCast, Int.reduceToNat]
                simp [labs, labsL, inLs]
            | true =>
              simp -dsimp -implicitDefEqProofs only [go_sem, ↓reduceIte, Nat.reduceEqDiff, Nat.reduceLT, Nat.reduceAdd, Nat.reduceMul, Nat.reduceLeDiff, Nat.le_refl, Int.natCast_zero, Int.toNat_natCast, Int.reduceToNat]
              exact ⟨by omega, ⟨by omega, by omega⟩, by simp⟩
        · have hcB : cutB m (rankF key) n c i u = (⟨u.ver + 1, c ++ [(i : Int)], u.s⟩, true) := by rw [cutB, if_pos hsT, if_neg (by rw [hrunok, hq2]; exact fun h => by cases h), hu1]
          rw [hcB]
          clear hcB hfin
          simp -dsimp -implicitDefEqProofs only [go_sem, ↓reduceIte, Nat.reduceEqDiff, Nat.reduceLT, Nat.reduceAdd, Nat.reduceMul, Nat.reduceLeDiff, Nat.le_refl, Int.natCast_zero, Int.toNat_natCast, Int.reduceToNat, htk, hmap, htl]
          (refine sCallX_one (hrun) ?_; try simp -dsimp -implicitDefEqProofs only [go_sem, ↓reduceIte, Nat.reduceEqDiff, Nat.reduceLT, Nat.reduceAdd, Nat.reduceMul, Nat.reduceLeDiff, Nat.le_refl, Int.natCast_zero, Int.toNat_natCast, Int.reduceToNat, *])
          exact ⟨by exact rfl, by omega, ⟨by omega, by omega⟩, by simp⟩
      · have hkp := of_decide_eq_true hk0
        have hla : c.getD (c.length - 1) 0 = c[c.length - 1] := by simp [List.getD_eq_getElem?_getD, show c.length - 1 < c.length by omega]
        have hlast : (List.map eI u.zs)[c.length - 1]? = some (eI (c.getD (c.length - 1) 0)) := by
          have h1 : (List.take c.length (List.map eI u.zs))[c.length - 1]? = (List.map eI u.zs)[c.length - 1]? := by rw [List.getElem?_take]; simp; omega
          rw [← h1, htk, hla]; simp [show c.length - 1 < c.length by omega]
        have hlb := hc _ (List.getElem_mem (show c.length - 1 < c.length by omega))
        rw [← hla] at hlb
        generalize c.getD (c.length - 1) 0 = z at *
        clear hla
        have e1 : ((c.length : Int) - 1).toNat = c.length - 1 := by omega
        have habs := c_absolute ((i : Int) - z) (by omega)
        rcases hq : decide (absN ((i : Int) - z) > m.step) with _ | _
        · have hsT : stepOk m c i = true := by rw [hstep, hq]; simp
          simp -dsimp -implicitDefEqProofs only [go_sem, ↓reduceIte, Nat.reduceEqDiff, Nat.reduceLT, Nat.reduceAdd, Nat.reduceMul, Nat.reduceLeDiff, Nat.le_refl, Int.natCast_zero, Int.toNat_natCast, Int.reduceToNat, hfn, hk0, e1, hlast]
          refine ⟨⟨by omega, by omega⟩, ⟨by omega, by omega⟩, ⟨by omega, by omega⟩, ?_⟩
          (refine sCallX_one (habs) ?_; try simp -dsimp -implicitDefEqProofs only [go_sem, ↓reduceIte, Nat.reduceEqDiff, Nat.reduceLT, Nat.reduceAdd, Nat.reduceMul, Nat.reduceLeDiff, Nat.le_refl, Int.natCast_zero, Int.toNat_natCast, Int.reduceToNat, *])
          refine ⟨by exact rfl, by omega, ?_⟩
          refine Later.solo 13 mixed rfl ?_
          simp -dsimp -implicitDefEqProofs only [List.take_succ_cons, List.take_zero, List.drop_succ_cons, List.drop_zero]
          have htl : List.take (c.length + 1) (List.map eI (c ++ [(i : Int)])) = List.map eI (c ++ [(i : Int)]) := List.take_of_length_le (by simp)
          rcases hq2 : decide ((runAt (c ++ [(i : Int)]) c.length : Int) > m.same) with _ | _
          · have hcB : cutB m (rankF key) n c i u = cutF m (rankF key) n (c ++ [(i : Int)]) ⟨u.ver + 1, c ++ [(i : Int)], u.s⟩ := by rw [cutB, if_pos hsT, if_pos (by rw [hrunok, hq2]; rfl), hu1]
            rw [hcB] at hfin ⊢
            clear hcB
            generalize cutF m (rankF key) n (c ++ [(i : Int)]) ⟨u.ver + 1, c ++ [(i : Int)], u.s⟩ = w at *
            obtain ⟨w, b⟩ := w
            simp -dsimp -implicitDefEqProofs only [go_sem, ↓reduceIte, Nat.reduceEqDiff, Nat.reduceLT, Nat.reduceAdd, Nat.reduceMul, Nat.reduceLeDiff, Nat.le_refl, Int.natCast_zero, Int.toNat_natCast, Int.reduceToNat, htk, hmap, htl]
            (refine sCallX_one (hrun) ?_; try simp -dsimp -implicitDefEqProofs only [go_sem, ↓reduceIte, Nat.reduceEqDiff, Nat.reduceLT, Nat.reduceAdd, Nat.reduceMul, Nat.reduceLeDiff, Nat.le_refl, Int.natCast_zero, Int.toNat_natCast, Int.reduceToNat, *])
            refine ⟨by exact rfl, ?_⟩
            refine sCallT_H hih ⟨⟨?_, ?_⟩, ?_, ?_⟩ ?_
            · simp -dsimp -implicitDefEqProofs only [go_sem, ↓reduceIte, Nat.reduceEqDiff, Nat.reduceLT, Nat.reduceAdd, Nat.reduceMul, Nat.reduceLeDiff, Nat.le_refl, Int.natCast_zero, Int.toNat_natCast, Int.reduceToNat]
            · simp -dsimp -implicitDefEqProofs only [go_sem, ↓reduceIte, Nat.reduceEqDiff, Nat.reduceLT, Nat.reduceAdd, Nat.reduceMul, Nat.reduceLeDiff, Nat.le_refl, Int.natCast_zero, Int.toNat_natCast, Int.reduceToNat]
              simp [labs, labsL, inLs]
            · simp -dsimp -implicitDefEqProofs only [go_sem, ↓reduceIte, Nat.reduceEqDiff, Nat.reduceLT, Nat.reduceAdd, Nat.reduceMul, Nat.reduceLeDiff, Nat.le_refl, Int.natCast_zero, Int.toNat_natCast, Int.reduceToNat]
            · simp -dsimp -implicitDefEqProofs only [go_sem, ↓reduceIte, Nat.reduceEqDiff, Nat.reduceLT, Nat.reduceAdd, Nat.reduceMul, Nat.reduceLeDiff, Nat.le_refl, Int.natCast_zero, Int.toNat_natCast, Int.reduceToNat]
              simp [labs, labsL, inLs]
            · rintro r m' ⟨hr, hm'⟩
              rw [hr, hm']
              clear hr hm'
              cases b with
              | false =>
                rw [hfin rfl]
                simp -dsimp -implicitDefEqProofs only [go_sem, ↓reduceIte, Nat.reduceEqDiff, Nat.reduceLT, Nat.reduceAdd, Nat.reduceMul, Nat.reduceLeDiff, Nat.le_refl, Int.natCast_zero, Int.toNat_natCast, Int.reduceToNat]
                refine ⟨by omega, _, rfl, keepsM_of ?_ ?_⟩
                · simp -dsimp -implicitDefEqProofs only [go_sem, ↓reduceIte, Nat.reduceEqDiff, Nat.reduceLT, Nat.reduceAdd, Nat.reduceMul, Nat.reduceLeDiff, Nat.le_refl, Int.natCast_zero, Int.toNat_natCast, Int.reduceToNat]
                · simp -dsimp -implicitDefEqProofs only [go_sem, ↓reduceIte, Nat.reduceEqDiff, Nat.reduceLT, Nat.reduceAdd, Nat.reduceMul, Nat.reduceLeDiff, Nat.le_refl, Int.natCast_zero, Int.toNat_natCast, Int.reduceToNat]
                  simp [labs, labsL, inLs]
              | true =>
                simp -dsimp -implicitDefEqProofs only [go_sem, ↓reduceIte, Nat.reduceEqDiff, Nat.reduceLT, Nat.reduceAdd, Nat.reduceMul, Nat.reduceLeDiff, Nat.le_refl, Int.natCast_zero, Int.toNat_natCast, Int.reduceToNat]
                exact ⟨by omega, ⟨by omega, by omega⟩, by simp⟩
          · have hcB : cutB m (rankF key) n c i u = (⟨u.ver + 1, c ++ [(i : Int)], u.s⟩, true) := by rw [cutB, if_pos hsT, if_neg (by rw [hrunok, hq2]; exact fun h => by cases h), hu1]
            rw [hcB]
            clear hcB hfin
            simp -dsimp -implicitDefEqProofs only [go_sem, ↓reduceIte, Nat.reduceEqDiff, Nat.reduceLT, Nat.reduceAdd, Nat.reduceMul, Nat.reduceLeDiff, Nat.le_refl, Int.natCast_zero, Int.toNat_natCast, Int.reduceToNat, htk, hmap, htl]
            (refine sCallX_one (hrun) ?_; try simp -dsimp -implicitDefEqProofs only [go_sem, ↓reduceIte, Nat.reduceEqDiff, Nat.reduceLT, Nat.reduceAdd, Nat.reduceMul, Nat.reduceLeDiff, Nat.le_refl, Int.natCast_zero, Int.toNat_natCast, Int.reduceToNat, *])
            exact ⟨by exact rfl, by omega, ⟨by omega, by omega⟩, by simp⟩
        · have hsF : stepOk m c i = false := by
            rw [hstep, hq]
            cases c with
            | nil => simp at hkp
            | cons => rfl
          have hcB : cutB m (rankF key) n c i u = (u, true) := by rw [cutB, if_neg (by rw [hsF]; exact fun h => by cases h)]
          rw [hcB]
          clear hcB hfin
          simp -dsimp -implicitDefEqProofs only [go_sem, ↓reduceIte, Nat.reduceEqDiff, Nat.reduceLT, Nat.reduceAdd, Nat.reduceMul, Nat.reduceLeDiff, Nat.le_refl, Int.natCast_zero, Int.toNat_natCast, Int.reduceToNat, hfn, hk0, e1, hlast]
          refine ⟨⟨by omega, by omega⟩, ⟨by omega, by omega⟩, ⟨by omega, by omega⟩, ?_⟩
          (refine sCallX_one (habs) ?_; try simp -dsimp -implicitDefEqProofs only [go_sem, ↓reduceIte, Nat.reduceEqDiff, Nat.reduceLT, Nat.reduceAdd, Nat.reduceMul, Nat.reduceLeDiff, Nat.le_refl, Int.natCast_zero, Int.toNat_natCast, Int.reduceToNat, *])
          exact ⟨by exact rfl, ⟨by omega, by omega⟩, by simp⟩
    · simp -dsimp -implicitDefEqProofs only [pick_nil, pick_cons, look_nil, look_cons, dropB_nil, dropB_cons, inD_nil, inD_cons, inE_nil, inE_cons, or_t_l, or_f_l, Nat.reduceBEq, Nat.reduceDiv, Nat.reduceAdd, beq_self_eq_true, Bool.false_eq_true, Bool.or_false, ↓reduceIte, Nat.reduceEqDiff, List.cons_append, List.nil_append]
      have hlt : decide (((m.depths.toNat : Nat) : Int) < m.depths) = false := decide_eq_false (by omega)
      simp -dsimp -implicitDefEqProofs only [go_sem, ↓reduceIte, Nat.reduceEqDiff, Nat.reduceLT, Nat.reduceAdd, Nat.reduceMul, Nat.reduceLeDiff, Nat.le_refl, Int.natCast_zero, Int.toNat_natCast, Int.reduceToNat, hlt]
      rw [cutF_succ]
      refine ⟨_, ⟨by rw [hI], rfl⟩, keepsM_of ?_ ?_⟩
      · simp -dsimp -implicitDefEqProofs only [go_sem, ↓reduceIte, Nat.reduceEqDiff, Nat.reduceLT, Nat.reduceAdd, Nat.reduceMul, Nat.reduceLeDiff, Nat.le_refl, Int.natCast_zero, Int.toNat_natCast, Int.reduceToNat]
      · simp -dsimp -implicitDefEqProofs only [go_sem, ↓reduceIte, Nat.reduceEqDiff, Nat.reduceLT, Nat.reduceAdd, Nat.reduceMul, Nat.reduceLeDiff, Nat.le_refl, Int.natCast_zero, Int.toNat_natCast, Int.reduceToNat]
        simp [labs, labsL, inLs]
end Go.Vc
/-
  Contracts: numbers of keys and ranks, counted by their beginnings and by visits.
-/
set_option linter.unusedVariables false
set_option linter.unusedSimpArgs false
set_option linter.unnecessarySimpa false
namespace Go.Vc
open Go.Proofs
set_option maxRecDepth 100000
set_option maxHeartbeats 2000000
theorem c_l02Count (m : MkM) (hm : isMk m = true) : ∀ (n : Nat) (c : List Int), (c.length : Int) + n = m.chambers → (∀ x ∈ c, 0 ≤ x ∧ x ≤ 7) → Fn Tryd.prog 50 [eMk m, eIs c] true (· = eI (cnt m n c)) := by
  intro n
  have ⟨⟨hch1, hch2⟩, hd1, hd2⟩ := isMk_num hm
  induction n with
  | zero =>
    intro c hl hc
    refine Fn.of_vcN 37 [.tmp 4] Tryd.func50 rfl rfl rfl rfl rfl (of_decide_eq_true rfl) ?_
    have hbe := c_l02Begins m c hm (by omega) hc
    have hk : ((c.length : Int) == m.chambers) = true := beq_iff_eq.2 (by omega)
    rcases hb : okTo m c with _ | _
    · have hcnt : cnt m 0 c = 0 := by rw [cnt, if_neg (by rw [hb]; exact fun h => by cases h)]
      rw [hb] at hbe
      rw [hcnt]
      simp -dsimp -implicitDefEqProofs only [go_sem, ↓reduceIte, Nat.reduceEqDiff, Nat.reduceLT, Nat.reduceAdd, Nat.reduceMul, Nat.reduceLeDiff, Nat.le_refl, Int.natCast_zero, Int.toNat_natCast, Int.reduceToNat]
      (refine sCallT_one (hbe) ?_; try simp -dsimp -implicitDefEqProofs only [go_sem, ↓reduceIte, Nat.reduceEqDiff, Nat.reduceLT, Nat.reduceAdd, Nat.reduceMul, Nat.reduceLeDiff, Nat.le_refl, Int.natCast_zero, Int.toNat_natCast, Int.reduceToNat, *])
    · have hcnt := cnt_zero m c hb
      rw [hb] at hbe
      rw [hcnt]
      have hki := c_l02Kinds c (by omega)
      rcases hq : decide ((kindsTo c c.length : Int) < m.least) with _ | _
      · rw [if_neg (of_decide_eq_false hq)]
        clear hcnt hb
        simp -dsimp -implicitDefEqProofs only [go_sem, ↓reduceIte, Nat.reduceEqDiff, Nat.reduceLT, Nat.reduceAdd, Nat.reduceMul, Nat.reduceLeDiff, Nat.le_refl, Int.natCast_zero, Int.toNat_natCast, Int.reduceToNat]
        (refine sCallT_one (hbe) ?_; try simp -dsimp -implicitDefEqProofs only [go_sem, ↓reduceIte, Nat.reduceEqDiff, Nat.reduceLT, Nat.reduceAdd, Nat.reduceMul, Nat.reduceLeDiff, Nat.le_refl, Int.natCast_zero, Int.toNat_natCast, Int.reduceToNat, *])
        refine Later.draw mixed rfl ?_
        simp -dsimp -implicitDefEqProofs only [go_sem, ↓reduceIte, Nat.reduceEqDiff, Nat.reduceLT, Nat.reduceAdd, Nat.reduceMul, Nat.reduceLeDiff, Nat.le_refl, Int.natCast_zero, Int.toNat_natCast, Int.reduceToNat]
        (refine sCallX_one (hki) ?_; try simp -dsimp -implicitDefEqProofs only [go_sem, ↓reduceIte, Nat.reduceEqDiff, Nat.reduceLT, Nat.reduceAdd, Nat.reduceMul, Nat.reduceLeDiff, Nat.le_refl, Int.natCast_zero, Int.toNat_natCast, Int.reduceToNat, *])
        first | exact rfl | exact ⟨by exact rfl, rfl⟩
      · rw [if_pos (of_decide_eq_true hq)]
        clear hcnt hb
        simp -dsimp -implicitDefEqProofs only [go_sem, ↓reduceIte, Nat.reduceEqDiff, Nat.reduceLT, Nat.reduceAdd, Nat.reduceMul, Nat.reduceLeDiff, Nat.le_refl, Int.natCast_zero, Int.toNat_natCast, Int.reduceToNat]
        (refine sCallT_one (hbe) ?_; try simp -dsimp -implicitDefEqProofs only [go_sem, ↓reduceIte, Nat.reduceEqDiff, Nat.reduceLT, Nat.reduceAdd, Nat.reduceMul, Nat.reduceLeDiff, Nat.le_refl, Int.natCast_zero, Int.toNat_natCast, Int.reduceToNat, *])
        refine Later.draw mixed rfl ?_
        simp -dsimp -implicitDefEqProofs only [go_sem, ↓reduceIte, Nat.reduceEqDiff, Nat.reduceLT, Nat.reduceAdd, Nat.reduceMul, Nat.reduceLeDiff, Nat.le_refl, Int.natCast_zero, Int.toNat_natCast, Int.reduceToNat]
        (refine sCallX_one (hki) ?_; try simp -dsimp -implicitDefEqProofs only [go_sem, ↓reduceIte, Nat.reduceEqDiff, Nat.reduceLT, Nat.reduceAdd, Nat.reduceMul, Nat.reduceLeDiff, Nat.le_refl, Int.natCast_zero, Int.toNat_natCast, Int.reduceToNat, *])
        first | exact rfl | exact ⟨by exact rfl, rfl⟩
  | succ n ih =>
    intro c hl hc
    refine Fn.of_vcN 37 [.tmp 4] Tryd.func50 rfl rfl rfl rfl rfl (of_decide_eq_true rfl) ?_
    have hbe := c_l02Begins m c hm (by omega) hc
    have hk : ((c.length : Int) == m.chambers) = false := beq_eq_false_iff_ne.2 (by omega)
    rcases hb : okTo m c with _ | _
    · have hcnt : cnt m (n + 1) c = 0 := by rw [cnt, if_neg (by rw [hb]; exact fun h => by cases h)]
      rw [hb] at hbe
      rw [hcnt]
      simp -dsimp -implicitDefEqProofs only [go_sem, ↓reduceIte, Nat.reduceEqDiff, Nat.reduceLT, Nat.reduceAdd, Nat.reduceMul, Nat.reduceLeDiff, Nat.le_refl, Int.natCast_zero, Int.toNat_natCast, Int.reduceToNat]
      (refine sCallT_one (hbe) ?_; try simp -dsimp -implicitDefEqProofs only [go_sem, ↓reduceIte, Nat.reduceEqDiff, Nat.reduceLT, Nat.reduceAdd, Nat.reduceMul, Nat.reduceLeDiff, Nat.le_refl, Int.natCast_zero, Int.toNat_natCast, Int.reduceToNat, *])
    · have hcnt := cnt_succ m n c hb
      rw [hb] at hbe
      rw [hcnt]
      clear hcnt hb
      have hown := c_l01Own c (by omega)
      simp -dsimp -implicitDefEqProofs only [go_sem, ↓reduceIte, Nat.reduceEqDiff, Nat.reduceLT, Nat.reduceAdd, Nat.reduceMul, Nat.reduceLeDiff, Nat.le_refl, Int.natCast_zero, Int.toNat_natCast, Int.reduceToNat]
      (refine sCallT_one (hbe) ?_; try simp -dsimp -implicitDefEqProofs only [go_sem, ↓reduceIte, Nat.reduceEqDiff, Nat.reduceLT, Nat.reduceAdd, Nat.reduceMul, Nat.reduceLeDiff, Nat.le_refl, Int.natCast_zero, Int.toNat_natCast, Int.reduceToNat, *])
      refine Later.up [1, 2] [30, 32, 33, 34] [] m.depths.toNat (fun _ => True) (fun i => [(6, eI i), (5, eI (cntTo m n c i))]) (fun _ => []) trivial ?_ rfl (fun i hi _ => ?_) (fun _ => ?_)
      · simp -dsimp -implicitDefEqProofs only [go_sem, ↓reduceIte, Nat.reduceEqDiff, Nat.reduceLT, Nat.reduceAdd, Nat.reduceMul, Nat.reduceLeDiff, Nat.le_refl, Int.natCast_zero, Int.toNat_natCast, Int.reduceToNat]
        try simp [cntTo]
      · have hih := ih (c ++ [(i : Int)]) (by simp; omega) (fun x hx => by
          rcases List.mem_append.1 hx with h | h
          · exact hc x h
          · simp at h; omega)
        have hlt : decide ((i : Int) < m.depths) = true := decide_eq_true (by omega)
        have hmap : List.map eI c ++ [eI (i : Int)] = List.map eI (c ++ [(i : Int)]) := by simp
        have htk : List.take c.length (List.map eI c) = List.map eI c := List.take_of_length_le (by simp)
        have htl : List.take (c.length + 1) (List.map eI (c ++ [(i : Int)])) = List.map eI (c ++ [(i : Int)]) := List.take_of_length_le (by simp)
        have hb1 := cntTo_le m hm n c i
        have hb2 := cnt_le m hm n (c ++ [(i : Int)])
        have hp : 8 ^ n ≤ 8 ^ 6 := Nat.pow_le_pow_right (by decide) (by omega)
        have h8 : i * 8 ^ n ≤ 7 * 8 ^ n := Nat.mul_le_mul_right _ (by omega)
        rw [cntTo_succ]
        clear ih
        generalize 8 ^ n = p at *
        generalize cntTo m n c i = A at *
        generalize cnt m n (c ++ [(i : Int)]) = Bn at *
        simp -dsimp -implicitDefEqProofs only [pick_nil, pick_cons, look_nil, look_cons, dropB_nil, dropB_cons, inD_nil, inD_cons, inE_nil, inE_cons, or_t_l, or_f_l, Nat.reduceBEq, Nat.reduceDiv, Nat.reduceAdd, beq_self_eq_true, Bool.false_eq_true, Bool.or_false, ↓reduceIte, Nat.reduceEqDiff, List.cons_append, List.nil_append]
        simp -dsimp -implicitDefEqProofs only [go_sem, ↓reduceIte, Nat.reduceEqDiff, Nat.reduceLT, Nat.reduceAdd, Nat.reduceMul, Nat.reduceLeDiff, Nat.le_refl, Int.natCast_zero, Int.toNat_natCast, Int.reduceToNat, hlt]
        refine Later.draw mixed rfl ?_
        simp -dsimp -implicitDefEqProofs only [go_sem, ↓reduceIte, Nat.reduceEqDiff, Nat.reduceLT, Nat.reduceAdd, Nat.reduceMul, Nat.reduceLeDiff, Nat.le_refl, Int.natCast_zero, Int.toNat_natCast, Int.reduceToNat]
        (refine sCallX_one (hown) ?_; try simp -dsimp -implicitDefEqProofs only [go_sem, ↓reduceIte, Nat.reduceEqDiff, Nat.reduceLT, Nat.reduceAdd, Nat.reduceMul, Nat.reduceLeDiff, Nat.le_refl, Int.natCast_zero, Int.toNat_natCast, Int.reduceToNat, *])
        refine ⟨by omega, ?_⟩
        (refine sCallX_one (hih) ?_; try simp -dsimp -implicitDefEqProofs only [go_sem, ↓reduceIte, Nat.reduceEqDiff, Nat.reduceLT, Nat.reduceAdd, Nat.reduceMul, Nat.reduceLeDiff, Nat.le_refl, Int.natCast_zero, Int.toNat_natCast, Int.reduceToNat, *])
        exact ⟨⟨by omega, by omega⟩, by exact rfl, ⟨by omega, by omega⟩, by simp, by simp⟩
      · have hlt : decide (((m.depths.toNat : Nat) : Int) < m.depths) = false := decide_eq_false (by omega)
        simp -dsimp -implicitDefEqProofs only [pick_nil, pick_cons, look_nil, look_cons, dropB_nil, dropB_cons, inD_nil, inD_cons, inE_nil, inE_cons, or_t_l, or_f_l, Nat.reduceBEq, Nat.reduceDiv, Nat.reduceAdd, beq_self_eq_true, Bool.false_eq_true, Bool.or_false, ↓reduceIte, Nat.reduceEqDiff, List.cons_append, List.nil_append]
        simp -dsimp -implicitDefEqProofs only [go_sem, ↓reduceIte, Nat.reduceEqDiff, Nat.reduceLT, Nat.reduceAdd, Nat.reduceMul, Nat.reduceLeDiff, Nat.le_refl, Int.natCast_zero, Int.toNat_natCast, Int.reduceToNat, hlt]
theorem c_keysCode1 (m : MkM) (key : List Int) (h : key.length ≤ 1048576) : Fn Tryd.prog 77 [eMk m, eIss [key]] true (· = eI (if isMk m = true then if fault m key = 0 then 0 else 2 else 1)) := by
  refine Fn.of_vcN 21 [.tmp 4] Tryd.func77 rfl rfl rfl rfl rfl (of_decide_eq_true rfl) ?_
  have hm0 := c_iIsMaker m
  rcases hm : isMk m with _ | _
  · rw [hm] at hm0
    clear hm
    simp -dsimp -implicitDefEqProofs only [go_sem, ↓reduceIte, Nat.reduceEqDiff, Nat.reduceLT, Nat.reduceAdd, Nat.reduceMul, Nat.reduceLeDiff, Nat.le_refl, Int.natCast_zero, Int.toNat_natCast, Int.reduceToNat]
    repeat' (refine sCallT_one (hm0) ?_; try simp -dsimp -implicitDefEqProofs only [go_sem, ↓reduceIte, Nat.reduceEqDiff, Nat.reduceLT, Nat.reduceAdd, Nat.reduceMul, Nat.reduceLeDiff, Nat.le_refl, Int.natCast_zero, Int.toNat_natCast, Int.reduceToNat, *])
    all_goals simp
  · have hk : Fn Tryd.prog 97 [eMk m, eIs key] true (· = eB (fault m key == 0)) := by
      refine Fn.of_vcN 9 [.tmp 4] Tryd.func97 rfl rfl rfl rfl rfl (of_decide_eq_true rfl) ?_
      have hf := c_keyFault m key hm h
      simp -dsimp -implicitDefEqProofs only [go_sem, ↓reduceIte, Nat.reduceEqDiff, Nat.reduceLT, Nat.reduceAdd, Nat.reduceMul, Nat.reduceLeDiff, Nat.le_refl, Int.natCast_zero, Int.toNat_natCast, Int.reduceToNat]
      repeat' (refine sCallT_one (hf) ?_; try simp -dsimp -implicitDefEqProofs only [go_sem, ↓reduceIte, Nat.reduceEqDiff, Nat.reduceLT, Nat.reduceAdd, Nat.reduceMul, Nat.reduceLeDiff, Nat.le_refl, Int.natCast_zero, Int.toNat_natCast, Int.reduceToNat, *])
    rw [hm] at hm0
    clear hm
    have h01 : decide ((0 : Int) < ((1 : Nat) : Int)) = true := rfl
    have h11 : decide (((1 : Nat) : Int) < ((1 : Nat) : Int)) = false := rfl
    rcases hq : (fault m key == 0) with _ | _
    all_goals
      have hF := hq
      simp only [beq_iff_eq, beq_eq_false_iff_ne] at hF
      rw [hq] at hk
      simp only [hF, if_true, if_false]
      clear hq hF
      simp -dsimp -implicitDefEqProofs only [go_sem, ↓reduceIte, Nat.reduceEqDiff, Nat.reduceLT, Nat.reduceAdd, Nat.reduceMul, Nat.reduceLeDiff, Nat.le_refl, Int.natCast_zero, Int.toNat_natCast, Int.reduceToNat]
      repeat' (refine sCallT_one (hm0) ?_; try simp -dsimp -implicitDefEqProofs only [go_sem, ↓reduceIte, Nat.reduceEqDiff, Nat.reduceLT, Nat.reduceAdd, Nat.reduceMul, Nat.reduceLeDiff, Nat.le_refl, Int.natCast_zero, Int.toNat_natCast, Int.reduceToNat, *])
    · refine Later.up [2, 10, 11] [18] [] 1 (fun i => i = 0) (fun i => [(12, eI i)]) (fun _ => []) rfl ?_ rfl (fun i hi hI => ?_) (fun hI => ?_)
      · simp -dsimp -implicitDefEqProofs only [go_sem, ↓reduceIte, Nat.reduceEqDiff, Nat.reduceLT, Nat.reduceAdd, Nat.reduceMul, Nat.reduceLeDiff, Nat.le_refl, Int.natCast_zero, Int.toNat_natCast, Int.reduceToNat]
      · subst hI
        simp -dsimp -implicitDefEqProofs only [pick_nil, pick_cons, look_nil, look_cons, dropB_nil, dropB_cons, inD_nil, inD_cons, inE_nil, inE_cons, or_t_l, or_f_l, Nat.reduceBEq, Nat.reduceDiv, Nat.reduceAdd, beq_self_eq_true, Bool.false_eq_true, Bool.or_false, ↓reduceIte, Nat.reduceEqDiff, List.cons_append, List.nil_append]
        simp -dsimp -implicitDefEqProofs only [go_sem, ↓reduceIte, Nat.reduceEqDiff, Nat.reduceLT, Nat.reduceAdd, Nat.reduceMul, Nat.reduceLeDiff, Nat.le_refl, Int.natCast_zero, Int.toNat_natCast, Int.reduceToNat, h01]
        repeat' first
          | (with_reducible refine And.intro ?_ ?_)
          | (refine sCallT_one (hk) ?_; try simp -dsimp -implicitDefEqProofs only [go_sem, ↓reduceIte, Nat.reduceEqDiff, Nat.reduceLT, Nat.reduceAdd, Nat.reduceMul, Nat.reduceLeDiff, Nat.le_refl, Int.natCast_zero, Int.toNat_natCast, Int.reduceToNat, *])
        all_goals first
          | omega
          | exact ⟨by omega, by omega⟩
          | rfl
          | trace_state
      · cases hI
    · refine Later.up [2, 10, 11] [18] [] 1 (fun i => True) (fun i => [(12, eI i)]) (fun _ => []) trivial ?_ rfl (fun i hi hI => ?_) (fun hI => ?_)
      · simp -dsimp -implicitDefEqProofs only [go_sem, ↓reduceIte, Nat.reduceEqDiff, Nat.reduceLT, Nat.reduceAdd, Nat.reduceMul, Nat.reduceLeDiff, Nat.le_refl, Int.natCast_zero, Int.toNat_natCast, Int.reduceToNat]
      · obtain rfl : i = 0 := by omega
        simp -dsimp -implicitDefEqProofs only [pick_nil, pick_cons, look_nil, look_cons, dropB_nil, dropB_cons, inD_nil, inD_cons, inE_nil, inE_cons, or_t_l, or_f_l, Nat.reduceBEq, Nat.reduceDiv, Nat.reduceAdd, beq_self_eq_true, Bool.false_eq_true, Bool.or_false, ↓reduceIte, Nat.reduceEqDiff, List.cons_append, List.nil_append]
        simp -dsimp -implicitDefEqProofs only [go_sem, ↓reduceIte, Nat.reduceEqDiff, Nat.reduceLT, Nat.reduceAdd, Nat.reduceMul, Nat.reduceLeDiff, Nat.le_refl, Int.natCast_zero, Int.toNat_natCast, Int.reduceToNat, h01]
        repeat' first
          | (with_reducible refine And.intro ?_ ?_)
          | (refine sCallT_one (hk) ?_; try simp -dsimp -implicitDefEqProofs only [go_sem, ↓reduceIte, Nat.reduceEqDiff, Nat.reduceLT, Nat.reduceAdd, Nat.reduceMul, Nat.reduceLeDiff, Nat.le_refl, Int.natCast_zero, Int.toNat_natCast, Int.reduceToNat, *])
        all_goals first
          | omega
          | exact ⟨by omega, by omega⟩
          | rfl
          | trace_state
      · simp -dsimp -implicitDefEqProofs only [pick_nil, pick_cons, look_nil, look_cons, dropB_nil, dropB_cons, inD_nil, inD_cons, inE_nil, inE_cons, or_t_l, or_f_l, Nat.reduceBEq, Nat.reduceDiv, Nat.reduceAdd, beq_self_eq_true, Bool.false_eq_true, Bool.or_false, ↓reduceIte, Nat.reduceEqDiff, List.cons_append, List.nil_append]
        simp -dsimp -implicitDefEqProofs only [go_sem, ↓reduceIte, Nat.reduceEqDiff, Nat.reduceLT, Nat.reduceAdd, Nat.reduceMul, Nat.reduceLeDiff, Nat.le_refl, Int.natCast_zero, Int.toNat_natCast, Int.reduceToNat, h11]
theorem c_l02Code (m : MkM) (key : List Int) (h : key.length ≤ 1048576) : Fn Tryd.prog 48 [eMk m, eIs key] true (· = eI (if isMk m = true then if fault m key = 0 then 0 else 2 else 1)) := by
  refine Fn.of_vcN 12 [.tmp 4] Tryd.func48 rfl rfl rfl rfl rfl (of_decide_eq_true rfl) ?_
  have hm0 := c_sIsMaker m
  rcases hm : isMk m with _ | _
  · rw [hm] at hm0
    clear hm
    simp -dsimp -implicitDefEqProofs only [go_sem, ↓reduceIte, Nat.reduceEqDiff, Nat.reduceLT, Nat.reduceAdd, Nat.reduceMul, Nat.reduceLeDiff, Nat.le_refl, Int.natCast_zero, Int.toNat_natCast, Int.reduceToNat]
    repeat' (refine sCallT_one (hm0) ?_; try simp -dsimp -implicitDefEqProofs only [go_sem, ↓reduceIte, Nat.reduceEqDiff, Nat.reduceLT, Nat.reduceAdd, Nat.reduceMul, Nat.reduceLeDiff, Nat.le_refl, Int.natCast_zero, Int.toNat_natCast, Int.reduceToNat, *])
    all_goals simp
  · have hk := c_l02Fault m key hm h
    rw [hm] at hm0
    clear hm
    rcases hq : (fault m key != 0) with _ | _
    all_goals
      have hF := hq
      simp only [bne_iff_ne, bne_eq_false_iff_eq, ne_eq] at hF
      simp only [hF, if_true, if_false]
      generalize fault m key = F at *
      clear hF
      simp -dsimp -implicitDefEqProofs only [go_sem, ↓reduceIte, Nat.reduceEqDiff, Nat.reduceLT, Nat.reduceAdd, Nat.reduceMul, Nat.reduceLeDiff, Nat.le_refl, Int.natCast_zero, Int.toNat_natCast, Int.reduceToNat]
      repeat' (refine sCallT_one (hm0) ?_; try simp -dsimp -implicitDefEqProofs only [go_sem, ↓reduceIte, Nat.reduceEqDiff, Nat.reduceLT, Nat.reduceAdd, Nat.reduceMul, Nat.reduceLeDiff, Nat.le_refl, Int.natCast_zero, Int.toNat_natCast, Int.reduceToNat, *])
      repeat' (refine sCallT_one (hk) ?_; try simp -dsimp -implicitDefEqProofs only [go_sem, ↓reduceIte, Nat.reduceEqDiff, Nat.reduceLT, Nat.reduceAdd, Nat.reduceMul, Nat.reduceLeDiff, Nat.le_refl, Int.natCast_zero, Int.toNat_natCast, Int.reduceToNat, *])
theorem c_l03Rank (m : MkM) (key : List Int) (hm : isMk m = true) (hf : fault m key = 0) : Fn Tryd.prog 51 [eMk m, eIs key] true (· = eI (rankTo m key key.length)) := by
  refine Fn.of_vcN 34 [.tmp 4] Tryd.func51 rfl rfl rfl rfl rfl (of_decide_eq_true rfl) ?_
  obtain ⟨hl, hel, _, _⟩ := fault_out hf
  have ⟨⟨hch1, hch2⟩, hd1, hd2⟩ := isMk_num hm
  have hrb : ∀ i, i ≤ key.length → rankTo m key i ≤ i * 8 ^ 6 := by
    intro i hi
    induction i with
    | zero => simp [rankTo]
    | succ i ih =>
      have h1 := ih (by omega)
      have hx := hel (key.getD i 0) (by rw [List.getD_eq_getElem?_getD, List.getElem?_eq_getElem (by omega)]; exact List.getElem_mem _)
      have h2 := cntTo_le m hm (key.length - (i + 1)) (key.take i) (key.getD i 0).toNat
      have h3 : (key.getD i 0).toNat * 8 ^ (key.length - (i + 1)) ≤ 8 * 8 ^ 5 := Nat.mul_le_mul (by omega) (Nat.pow_le_pow_right (by decide) (by omega))
      rw [rankTo, Nat.succ_mul]
      omega
  simp -dsimp -implicitDefEqProofs only [go_sem, ↓reduceIte, Nat.reduceEqDiff, Nat.reduceLT, Nat.reduceAdd, Nat.reduceMul, Nat.reduceLeDiff, Nat.le_refl, Int.natCast_zero, Int.toNat_natCast, Int.reduceToNat]
  refine Later.up [1, 2] [10, 27, 29, 30, 31] [] key.length (fun _ => True) (fun i => [(6, eI i), (5, eI (rankTo m key i))]) (fun _ => []) trivial ?_ rfl (fun i hi _ => ?_) (fun _ => ?_)
  · simp -dsimp -implicitDefEqProofs only [go_sem, ↓reduceIte, Nat.reduceEqDiff, Nat.reduceLT, Nat.reduceAdd, Nat.reduceMul, Nat.reduceLeDiff, Nat.le_refl, Int.natCast_zero, Int.toNat_natCast, Int.reduceToNat]
    try simp [rankTo]
  · have gi := get_some hi
    have li := lt_len hi
    have hx := hel key[i] (List.getElem_mem hi)
    have hr1 := hrb i (by omega)
    have hgd : key.getD i 0 = key[i] := by simp [List.getD_eq_getElem?_getD, hi]
    have hrec : rankTo m key (i + 1) = rankTo m key i + cntTo m (key.length - (i + 1)) (key.take i) key[i].toNat := by rw [rankTo, hgd]
    rw [hrec]
    clear hrec hgd hrb
    have hcl : ∀ d, cntTo m (key.length - (i + 1)) (key.take i) d ≤ d * 8 ^ 5 := fun d => Nat.le_trans (cntTo_le m hm _ _ d) (Nat.mul_le_mul_left _ (Nat.pow_le_pow_right (by decide) (by omega)))
    generalize rankTo m key i = R at *
    simp -dsimp -implicitDefEqProofs only [pick_nil, pick_cons, look_nil, look_cons, dropB_nil, dropB_cons, inD_nil, inD_cons, inE_nil, inE_cons, or_t_l, or_f_l, Nat.reduceBEq, Nat.reduceDiv, Nat.reduceAdd, beq_self_eq_true, Bool.false_eq_true, Bool.or_false, ↓reduceIte, Nat.reduceEqDiff, List.cons_append, List.nil_append]
    simp -dsimp -implicitDefEqProofs only [go_sem, ↓reduceIte, Nat.reduceEqDiff, Nat.reduceLT, Nat.reduceAdd, Nat.reduceMul, Nat.reduceLeDiff, Nat.le_refl, Int.natCast_zero, Int.toNat_natCast, Int.reduceToNat, li, gi]
    refine Later.up [1, 2, 6] [27, 29, 30, 31] [] key[i].toNat (fun _ => True) (fun d => [(7, eI d), (5, eI ((R : Int) + cntTo m (key.length - (i + 1)) (key.take i) d))]) (fun _ => []) trivial ?_ rfl (fun d hd _ => ?_) (fun _ => ?_)
    · simp -dsimp -implicitDefEqProofs only [go_sem, ↓reduceIte, Nat.reduceEqDiff, Nat.reduceLT, Nat.reduceAdd, Nat.reduceMul, Nat.reduceLeDiff, Nat.le_refl, Int.natCast_zero, Int.toNat_natCast, Int.reduceToNat]
      try simp [cntTo]
    · have hlt : decide ((d : Int) < key[i]) = true := decide_eq_true (by omega)
      have hcnt := c_l02Count m hm (key.length - (i + 1)) (key.take i ++ [(d : Int)]) (by simp; omega) (fun x hx2 => by
        rcases List.mem_append.1 hx2 with h | h
        · have := hel x (List.mem_of_mem_take h); omega
        · simp at h; omega)
      have hown := c_l01Own (key.take i) (by simp; omega)
      have htk : List.take i (List.map eI key) = List.map eI (key.take i) := List.map_take.symm
      have hmap : List.map eI (key.take i) ++ [eI (d : Int)] = List.map eI (key.take i ++ [(d : Int)]) := by simp
      have hlen : (key.take i).length = i := by simp; omega
      have hb1 := hcl d
      have hb2 := cnt_le m hm (key.length - (i + 1)) (key.take i ++ [(d : Int)])
      have hp : 8 ^ (key.length - (i + 1)) ≤ 8 ^ 5 := Nat.pow_le_pow_right (by decide) (by omega)
      have htl : List.take (i + 1) (List.map eI (key.take i ++ [(d : Int)])) = List.map eI (key.take i ++ [(d : Int)]) := List.take_of_length_le (by simp; omega)
      have htl2 : List.take i (List.map eI (key.take i)) = List.map eI (key.take i) := List.take_of_length_le (by simp; omega)
      rw [cntTo_succ]
      clear hcl hel
      generalize hT : key.take i = T at *
      generalize cntTo m (key.length - (i + 1)) T d = A at *
      generalize cnt m (key.length - (i + 1)) (T ++ [(d : Int)]) = Bn at *
      generalize 8 ^ (key.length - (i + 1)) = p at *
      simp -dsimp -implicitDefEqProofs only [pick_nil, pick_cons, look_nil, look_cons, dropB_nil, dropB_cons, inD_nil, inD_cons, inE_nil, inE_cons, or_t_l, or_f_l, Nat.reduceBEq, Nat.reduceDiv, Nat.reduceAdd, beq_self_eq_true, Bool.false_eq_true, Bool.or_false, ↓reduceIte, Nat.reduceEqDiff, List.cons_append, List.nil_append]
      simp -dsimp -implicitDefEqProofs only [go_sem, ↓reduceIte, Nat.reduceEqDiff, Nat.reduceLT, Nat.reduceAdd, Nat.reduceMul, Nat.reduceLeDiff, Nat.le_refl, Int.natCast_zero, Int.toNat_natCast, Int.reduceToNat, hlt, gi]
      refine ⟨by omega, ?_⟩
      refine Later.draw mixed rfl ?_
      simp -dsimp -implicitDefEqProofs only [go_sem, ↓reduceIte, Nat.reduceEqDiff, Nat.reduceLT, Nat.reduceAdd, Nat.reduceMul, Nat.reduceLeDiff, Nat.le_refl, Int.natCast_zero, Int.toNat_natCast, Int.reduceToNat, htk]
      refine ⟨by omega, ?_⟩
      (refine sCallX_one (hown) ?_; try simp -dsimp -implicitDefEqProofs only [go_sem, ↓reduceIte, Nat.reduceEqDiff, Nat.reduceLT, Nat.reduceAdd, Nat.reduceMul, Nat.reduceLeDiff, Nat.le_refl, Int.natCast_zero, Int.toNat_natCast, Int.reduceToNat, *])
      refine ⟨by omega, ?_⟩
      (refine sCallX_one (hcnt) ?_; try simp -dsimp -implicitDefEqProofs only [go_sem, ↓reduceIte, Nat.reduceEqDiff, Nat.reduceLT, Nat.reduceAdd, Nat.reduceMul, Nat.reduceLeDiff, Nat.le_refl, Int.natCast_zero, Int.toNat_natCast, Int.reduceToNat, *])
      exact ⟨⟨by omega, by omega⟩, by exact rfl, ⟨by omega, by omega⟩, by simp, by simp; omega⟩
    · have hlt : decide (((key[i].toNat : Nat) : Int) < key[i]) = false := decide_eq_false (by omega)
      simp -dsimp -implicitDefEqProofs only [pick_nil, pick_cons, look_nil, look_cons, dropB_nil, dropB_cons, inD_nil, inD_cons, inE_nil, inE_cons, or_t_l, or_f_l, Nat.reduceBEq, Nat.reduceDiv, Nat.reduceAdd, beq_self_eq_true, Bool.false_eq_true, Bool.or_false, ↓reduceIte, Nat.reduceEqDiff, List.cons_append, List.nil_append]
      simp -dsimp -implicitDefEqProofs only [go_sem, ↓reduceIte, Nat.reduceEqDiff, Nat.reduceLT, Nat.reduceAdd, Nat.reduceMul, Nat.reduceLeDiff, Nat.le_refl, Int.natCast_zero, Int.toNat_natCast, Int.reduceToNat, hlt, gi]
      exact ⟨by omega, ⟨by omega, by omega⟩, by simp, by simp⟩
  · simp -dsimp -implicitDefEqProofs only [pick_nil, pick_cons, look_nil, look_cons, dropB_nil, dropB_cons, inD_nil, inD_cons, inE_nil, inE_cons, or_t_l, or_f_l, Nat.reduceBEq, Nat.reduceDiv, Nat.reduceAdd, beq_self_eq_true, Bool.false_eq_true, Bool.or_false, ↓reduceIte, Nat.reduceEqDiff, List.cons_append, List.nil_append]
    simp -dsimp -implicitDefEqProofs only [go_sem, ↓reduceIte, Nat.reduceEqDiff, Nat.reduceLT, Nat.reduceAdd, Nat.reduceMul, Nat.reduceLeDiff, Nat.le_refl, Int.natCast_zero, Int.toNat_natCast, Int.reduceToNat, nlt_len]
theorem c_countKeys (m : MkM) (hm : isMk m = true) : Fn Tryd.prog 53 [eMk m, .val .nilFunc] true (· = eI (cnt m m.chambers.toNat [])) := by
  refine Fn.of_vcN 11 [.tmp 4] Tryd.func53 rfl rfl rfl rfl rfl (of_decide_eq_true rfl) ?_
  have hnum := isMk_num hm
  have h8 : (8 : Int) ^ m.chambers.toNat ≤ 8 ^ 6 := by
    have : 8 ^ m.chambers.toNat ≤ 8 ^ 6 := Nat.pow_le_pow_right (by decide) (by omega)
    exact_mod_cast this
  have hcut := cut_C m hm m.chambers.toNat [] ⟨0, [], 0⟩ (by simp; omega) (fun x hx => by cases hx) ⟨rfl, Nat.le_refl _⟩ ⟨Int.le_refl _, by show (0 : Int) + _ ≤ _; omega⟩
  have hsp := (cutF_spec m cntF m.chambers.toNat [] ⟨0, [], 0⟩ ⟨rfl, Nat.le_refl _⟩).2.1
  rw [visit_cnt] at hsp
  have hc : cnt m m.chambers.toNat [] = (keysFrom m m.chambers.toNat []).length := by rw [cnt, if_pos (show okTo m [] = true from rfl)]
  rw [hc]
  simp only [Int.zero_add] at hsp
  rw [← hsp]
  generalize cutF m cntF m.chambers.toNat [] ⟨0, [], 0⟩ = w at *
  simp -dsimp -implicitDefEqProofs only [go_sem, ↓reduceIte, Nat.reduceEqDiff, Nat.reduceLT, Nat.reduceAdd, Nat.reduceMul, Nat.reduceLeDiff, Nat.le_refl, Int.natCast_zero, Int.toNat_natCast, Int.reduceToNat]
  refine sCallT_inl 900000 16 [] Tryd.func78 rfl rfl rfl rfl rfl (by exact of_decide_eq_true rfl) ?_
  simp -dsimp -implicitDefEqProofs only [go_sem, ↓reduceIte, Nat.reduceEqDiff, Nat.reduceLT, Nat.reduceAdd, Nat.reduceMul, Nat.reduceLeDiff, Nat.le_refl, Int.natCast_zero, Int.toNat_natCast, Int.reduceToNat]
  simp only [List.length_nil, List.map_nil] at hcut
  refine sCallT_HR 1700000000 hcut ⟨?_, ?_⟩ ⟨⟨?_, ?_⟩, ?_, ?_⟩ ?_
  · simp -dsimp -implicitDefEqProofs only [go_sem, ↓reduceIte, Nat.reduceEqDiff, Nat.reduceLT, Nat.reduceAdd, Nat.reduceMul, Nat.reduceLeDiff, Nat.le_refl, Int.natCast_zero, Int.toNat_natCast, Int.reduceToNat]
  · simp -dsimp -implicitDefEqProofs only [go_sem, ↓reduceIte, Nat.reduceEqDiff, Nat.reduceLT, Nat.reduceAdd, Nat.reduceMul, Nat.reduceLeDiff, Nat.le_refl, Int.natCast_zero, Int.toNat_natCast, Int.reduceToNat]
  · simp -dsimp -implicitDefEqProofs only [go_sem, ↓reduceIte, Nat.reduceEqDiff, Nat.reduceLT, Nat.reduceAdd, Nat.reduceMul, Nat.reduceLeDiff, Nat.le_refl, Int.natCast_zero, Int.toNat_natCast, Int.reduceToNat]
  · simp -dsimp -implicitDefEqProofs only [go_sem, ↓reduceIte, Nat.reduceEqDiff, Nat.reduceLT, Nat.reduceAdd, Nat.reduceMul, Nat.reduceLeDiff, Nat.le_refl, Int.natCast_zero, Int.toNat_natCast, Int.reduceToNat]
    simp [labs, labsL, inLs]
  · simp -dsimp -implicitDefEqProofs only [go_sem, ↓reduceIte, Nat.reduceEqDiff, Nat.reduceLT, Nat.reduceAdd, Nat.reduceMul, Nat.reduceLeDiff, Nat.le_refl, Int.natCast_zero, Int.toNat_natCast, Int.reduceToNat]
  · simp -dsimp -implicitDefEqProofs only [go_sem, ↓reduceIte, Nat.reduceEqDiff, Nat.reduceLT, Nat.reduceAdd, Nat.reduceMul, Nat.reduceLeDiff, Nat.le_refl, Int.natCast_zero, Int.toNat_natCast, Int.reduceToNat]
    simp [labs, labsL, inLs]
  · rintro r m' ⟨hr, hm'⟩
    rw [hr, hm']
    simp -dsimp -implicitDefEqProofs only [go_sem, ↓reduceIte, Nat.reduceEqDiff, Nat.reduceLT, Nat.reduceAdd, Nat.reduceMul, Nat.reduceLeDiff, Nat.le_refl, Int.natCast_zero, Int.toNat_natCast, Int.reduceToNat]
theorem c_RankOf (m : MkM) (key : List Int) (h : key.length ≤ 1048576) : Fn Tryd.prog 52 [eMk m, eIs key] true (· = if isMk m = true then if fault m key = 0 then .tup [eI (rankTo m key key.length), eI 0] else .tup [eI 0, eI 2] else .tup [eI 0, eI 1]) := by
  refine Fn.of_vcN 19 [.tmp 4, .tmp 5] Tryd.func52 rfl rfl rfl rfl rfl (of_decide_eq_true rfl) ?_
  have hcode := c_keysCode1 m key h
  have h10 : ((1 : Int) != 0) = true := rfl
  have h20 : ((2 : Int) != 0) = true := rfl
  rcases hm : isMk m with _ | _
  · rw [hm] at hcode
    simp only [Bool.false_eq_true, if_false] at hcode ⊢
    clear hm
    simp -dsimp -implicitDefEqProofs only [go_sem, ↓reduceIte, Nat.reduceEqDiff, Nat.reduceLT, Nat.reduceAdd, Nat.reduceMul, Nat.reduceLeDiff, Nat.le_refl, Int.natCast_zero, Int.toNat_natCast, Int.reduceToNat]
    repeat' (refine sCallT_one (hcode) ?_; try simp -dsimp -implicitDefEqProofs only [go_sem, ↓reduceIte, Nat.reduceEqDiff, Nat.reduceLT, Nat.reduceAdd, Nat.reduceMul, Nat.reduceLeDiff, Nat.le_refl, Int.natCast_zero, Int.toNat_natCast, Int.reduceToNat, *])
  · rw [hm] at hcode
    simp only [if_true] at hcode ⊢
    by_cases hf : fault m key = 0
    · rw [if_pos hf] at hcode ⊢
      have hnum := isMk_num hm
      have h8 : (8 : Int) ^ m.chambers.toNat ≤ 8 ^ 6 := by
        have : 8 ^ m.chambers.toNat ≤ 8 ^ 6 := Nat.pow_le_pow_right (by decide) (by omega)
        exact_mod_cast this
      have hcut := cut_R key h m hm m.chambers.toNat [] ⟨0, [], 0⟩ (by simp; omega) (fun x hx => by cases hx) ⟨rfl, Nat.le_refl _⟩ ⟨Int.le_refl _, by show (0 : Int) + _ ≤ _; omega⟩
      have hsp := (cutF_spec m (rankF key) m.chambers.toNat [] ⟨0, [], 0⟩ ⟨rfl, Nat.le_refl _⟩).2.1
      have hsp2 := hsp.trans (rank_of hf).1
      rw [← hsp2]
      clear hsp hsp2
      generalize cutF m (rankF key) m.chambers.toNat [] ⟨0, [], 0⟩ = w at *
      simp only [List.length_nil, List.map_nil] at hcut
      clear hm hf h8 hnum
      simp -dsimp -implicitDefEqProofs only [go_sem, ↓reduceIte, Nat.reduceEqDiff, Nat.reduceLT, Nat.reduceAdd, Nat.reduceMul, Nat.reduceLeDiff, Nat.le_refl, Int.natCast_zero, Int.toNat_natCast, Int.reduceToNat]
      repeat' (refine sCallT_one (hcode) ?_; try simp -dsimp -implicitDefEqProofs only [go_sem, ↓reduceIte, Nat.reduceEqDiff, Nat.reduceLT, Nat.reduceAdd, Nat.reduceMul, Nat.reduceLeDiff, Nat.le_refl, Int.natCast_zero, Int.toNat_natCast, Int.reduceToNat, *])
      refine sCallT_inl 900000 16 [] Tryd.func78 rfl rfl rfl rfl rfl (by exact of_decide_eq_true rfl) ?_
      simp -dsimp -implicitDefEqProofs only [go_sem, ↓reduceIte, Nat.reduceEqDiff, Nat.reduceLT, Nat.reduceAdd, Nat.reduceMul, Nat.reduceLeDiff, Nat.le_refl, Int.natCast_zero, Int.toNat_natCast, Int.reduceToNat]
      refine sCallT_HR 1700000000 hcut ⟨?_, ?_⟩ ⟨⟨?_, ?_⟩, ?_, ?_⟩ ?_
      · simp -dsimp -implicitDefEqProofs only [go_sem, ↓reduceIte, Nat.reduceEqDiff, Nat.reduceLT, Nat.reduceAdd, Nat.reduceMul, Nat.reduceLeDiff, Nat.le_refl, Int.natCast_zero, Int.toNat_natCast, Int.reduceToNat]
      · simp -dsimp -implicitDefEqProofs only [go_sem, ↓reduceIte, Nat.reduceEqDiff, Nat.reduceLT, Nat.reduceAdd, Nat.reduceMul, Nat.reduceLeDiff, Nat.le_refl, Int.natCast_zero, Int.toNat_natCast, Int.reduceToNat]
      · simp -dsimp -implicitDefEqProofs only [go_sem, ↓reduceIte, Nat.reduceEqDiff, Nat.reduceLT, Nat.reduceAdd, Nat.reduceMul, Nat.reduceLeDiff, Nat.le_refl, Int.natCast_zero, Int.toNat_natCast, Int.reduceToNat]
      · simp -dsimp -implicitDefEqProofs only [go_sem, ↓reduceIte, Nat.reduceEqDiff, Nat.reduceLT, Nat.reduceAdd, Nat.reduceMul, Nat.reduceLeDiff, Nat.le_refl, Int.natCast_zero, Int.toNat_natCast, Int.reduceToNat]
        simp [labs, labsL, inLs]
      · simp -dsimp -implicitDefEqProofs only [go_sem, ↓reduceIte, Nat.reduceEqDiff, Nat.reduceLT, Nat.reduceAdd, Nat.reduceMul, Nat.reduceLeDiff, Nat.le_refl, Int.natCast_zero, Int.toNat_natCast, Int.reduceToNat]
      · simp -dsimp -implicitDefEqProofs only [go_sem, ↓reduceIte, Nat.reduceEqDiff, Nat.reduceLT, Nat.reduceAdd, Nat.reduceMul, Nat.reduceLeDiff, Nat.le_refl, Int.natCast_zero, Int.toNat_natCast, Int.reduceToNat]
        simp [labs, labsL, inLs]
      · rintro r m' ⟨hr, hm'⟩
        rw [hr, hm']
        simp -dsimp -implicitDefEqProofs only [go_sem, ↓reduceIte, Nat.reduceEqDiff, Nat.reduceLT, Nat.reduceAdd, Nat.reduceMul, Nat.reduceLeDiff, Nat.le_refl, Int.natCast_zero, Int.toNat_natCast, Int.reduceToNat]
    · rw [if_neg hf] at hcode ⊢
      clear hm hf
      simp -dsimp -implicitDefEqProofs only [go_sem, ↓reduceIte, Nat.reduceEqDiff, Nat.reduceLT, Nat.reduceAdd, Nat.reduceMul, Nat.reduceLeDiff, Nat.le_refl, Int.natCast_zero, Int.toNat_natCast, Int.reduceToNat]
      repeat' (refine sCallT_one (hcode) ?_; try simp -dsimp -implicitDefEqProofs only [go_sem, ↓reduceIte, Nat.reduceEqDiff, Nat.reduceLT, Nat.reduceAdd, Nat.reduceMul, Nat.reduceLeDiff, Nat.le_refl, Int.natCast_zero, Int.toNat_natCast, Int.reduceToNat, *])
end Go.Vc
