/-
  The lines of the console, read: plain.
-/
import Derived.Test.YtlelhmbhhnokoaaDoorSplit
set_option linter.unusedVariables false
set_option linter.unusedSimpArgs false
set_option linter.unnecessarySimpa false
namespace Go.Vc
open Go.Proofs Go.Lib
def wFalse : List UInt8 := [102, 97, 108, 115, 101]
def wGhosts : List UInt8 := [103, 104, 111, 115, 116, 115]
def wWorst : List UInt8 := [119, 111, 114, 115, 116]
def wCount : List UInt8 := [99, 111, 117, 110, 116]
def wWafers : List UInt8 := [119, 97, 102, 101, 114, 115]
def wDrop : List UInt8 := [100, 114, 111, 112]
def wFind : List UInt8 := [102, 105, 110, 100]
def wLock : List UInt8 := [108, 111, 99, 107]
def wStamp : List UInt8 := [115, 116, 97, 109, 112]
def wMaker : List UInt8 := [109, 97, 107, 101, 114]
def wOpens : List UInt8 := [111, 112, 101, 110, 115]
def wKey : List UInt8 := [107, 101, 121]
/-- how a command is built -/
def kindW (w : List UInt8) : Int :=
  if w = wFalse then 0 else if w = wGhosts then 0 else if w = wWorst then 0 else if w = wCount then 0 else if w = wWafers then 0
  else if w = wDrop then 1 else if w = wFind then 1 else if w = wLock then 1
  else if w = wStamp then 2 else if w = wMaker then 5 else if w = wOpens then 11 else if w = wKey then 12 else -1
def cntW (w : List UInt8) : Int := if kindW w < 0 then 0 else (kindW w).tmod 10 + 1
theorem kindW_in (w : List UInt8) : kindW w = -1 ∨ kindW w = 0 ∨ kindW w = 1 ∨ kindW w = 2 ∨ kindW w = 5 ∨ (kindW w = 11 ∧ w = wOpens) ∨ (kindW w = 12 ∧ w = wKey) := by
  unfold kindW
  rcases Classical.em (w = wFalse) with h | h
  · simp only [if_pos h]; simp [h]
  simp only [if_neg h]
  clear h
  rcases Classical.em (w = wGhosts) with h | h
  · simp only [if_pos h]; simp [h]
  simp only [if_neg h]
  clear h
  rcases Classical.em (w = wWorst) with h | h
  · simp only [if_pos h]; simp [h]
  simp only [if_neg h]
  clear h
  rcases Classical.em (w = wCount) with h | h
  · simp only [if_pos h]; simp [h]
  simp only [if_neg h]
  clear h
  rcases Classical.em (w = wWafers) with h | h
  · simp only [if_pos h]; simp [h]
  simp only [if_neg h]
  clear h
  rcases Classical.em (w = wDrop) with h | h
  · simp only [if_pos h]; simp [h]
  simp only [if_neg h]
  clear h
  rcases Classical.em (w = wFind) with h | h
  · simp only [if_pos h]; simp [h]
  simp only [if_neg h]
  clear h
  rcases Classical.em (w = wLock) with h | h
  · simp only [if_pos h]; simp [h]
  simp only [if_neg h]
  clear h
  rcases Classical.em (w = wStamp) with h | h
  · simp only [if_pos h]; simp [h]
  simp only [if_neg h]
  clear h
  rcases Classical.em (w = wMaker) with h | h
  · simp only [if_pos h]; simp [h]
  simp only [if_neg h]
  clear h
  rcases Classical.em (w = wOpens) with h | h
  · simp only [if_pos h]; simp [h]
  simp only [if_neg h]
  clear h
  rcases Classical.em (w = wKey) with h | h
  · simp only [if_pos h]; simp [h]
  simp only [if_neg h]
  clear h
  simp
theorem kindW_opens : kindW wOpens = 11 := by decide
theorem kindW_key : kindW wKey = 12 := by decide
/-- a line's words, its numbers, and whether it is one -/
def pline (s : List UInt8) : List (List UInt8) × List Int × Bool :=
  if kindW ((spl 32 s).headD []) < 0 ∨ ((spl 32 s).length : Int) ≠ (kindW ((spl 32 s).headD [])).tmod 10 + 1 then ([], [], false)
  else if 10 ≤ kindW ((spl 32 s).headD []) then (spl 32 s, [], true)
  else if (((spl 32 s).drop 1).all fun w => (valD w).2) = true then (spl 32 s, ((spl 32 s).drop 1).map fun w => (valD w).1, true)
  else ([], [], false)
/-- a number as the program reads it, of at most thirteen signs and not below 0 -/
theorem numI_valD (w : List UInt8) : ((numI w).2 = true ∧ 0 ≤ (numI w).1 ∧ w.length ≤ 13) ↔ (valD w).2 = true := by
  constructor
  · rintro ⟨h1, h2, h3⟩
    obtain ⟨q1, q2⟩ := numI_true h1
    have hw : w = decDigits (numI w).1.toNat := by rw [← itoa_of_nonneg h2]; exact q2
    have : nDigits (numI w).1.toNat ≤ 13 := by
      have e := congrArg List.length hw
      rw [decDigits_length] at e; omega
    rw [hw, valD_dec this]
  · intro h
    obtain ⟨h1, h2⟩ := valD_true h
    have hl : w.length ≤ 13 := by
      unfold valD at h
      split at h
      · cases h
      · omega
    have h64 : I64 (valD w).1 := by
      have hd : ∀ c ∈ w, 48 ≤ c.toNat ∧ c.toNat ≤ 57 := by
        intro c hc
        rw [itoa_of_nonneg h1] at h2
        exact dig_all _ c (by rw [← h2]; exact hc)
      have hb := dval_lt w 0 hd
      have hp : 10 ^ w.length ≤ 10000000000000 := pow13 hl
      have hv : (valD w).1 = (dval 0 w : Nat) := by
        unfold valD at h ⊢
        split
        · rename_i hc; rw [if_pos hc] at h; cases h
        · rename_i hc
          rw [if_neg hc] at h
          split
          · rfl
          · rename_i hd2; rw [if_neg hd2] at h; cases h
      rw [hv]; unfold I64; omega
    have e := numI_itoa h64
    rw [← h2] at e
    rw [e]
    exact ⟨rfl, h1, hl⟩
theorem numI_valD_eq {w : List UInt8} (h : (valD w).2 = true) : (numI w).1 = (valD w).1 := by
  obtain ⟨h1, h2, h3⟩ := (numI_valD w).2 h
  obtain ⟨q1, q2⟩ := numI_true h1
  obtain ⟨v1, v2⟩ := valD_true h
  have h64 : I64 (valD w).1 := by
    have hd : ∀ c ∈ w, 48 ≤ c.toNat ∧ c.toNat ≤ 57 := by
      intro c hc
      rw [itoa_of_nonneg v1] at v2
      exact dig_all _ c (by rw [← v2]; exact hc)
    have hb := dval_lt w 0 hd
    have hp : 10 ^ w.length ≤ 10000000000000 := pow13 h3
    have hv : (valD w).1 = (dval 0 w : Nat) := by
      unfold valD at h ⊢
      split
      · rename_i hc; rw [if_pos hc] at h; cases h
      · rename_i hc
        rw [if_neg hc] at h
        split
        · rfl
        · rename_i hd2; rw [if_neg hd2] at h; cases h
    rw [hv]; unfold I64; omega
  exact itoa_inj q1 h64 (q2.symm.trans v2)
end Go.Vc
