/-
  The different numbers of a list, rising; plain facts.
-/
import Derived.Test.YtphhlffifljciaaMaker
import Derived.Lib.SlicesCompact
set_option linter.unusedVariables false
set_option linter.unusedSimpArgs false
set_option linter.unnecessarySimpa false
namespace Go.Vc
def rowsL (xs : List Int) : List Int := Lib.compact (xs.mergeSort fun x y => decide (x ≤ y))
theorem mem_compact (zs : List Int) (x : Int) : x ∈ Lib.compact zs ↔ x ∈ zs := by
  unfold Lib.compact Lib.compactUpTo
  have gi : ∀ i, i < zs.length → zs.toArray[i]! = zs.getD i 0 := fun i hi => by simp [List.getD_eq_getElem?_getD, hi]
  constructor
  · intro h
    obtain ⟨j, hj, rfl⟩ := List.mem_map.1 h
    have hj' := List.mem_range.1 (List.mem_filter.1 hj).1
    simp [hj']
  · intro h
    obtain ⟨j, hj, rfl⟩ := List.getElem_of_mem h
    induction j with
    | zero => exact List.mem_map.2 ⟨0, List.mem_filter.2 ⟨List.mem_range.2 hj, by simp [Lib.keeps]⟩, by simp [hj]⟩
    | succ j ih =>
      by_cases e : zs[j + 1] = zs[j]
      · rw [e]; exact ih (by omega) (List.getElem_mem _)
      · refine List.mem_map.2 ⟨j + 1, List.mem_filter.2 ⟨List.mem_range.2 hj, ?_⟩, by simp [hj]⟩
        have h1 : j < zs.length := by omega
        simp [Lib.keeps, hj, h1, e]
theorem compact_pair (zs : List Int) (h : zs.Pairwise (· ≤ ·)) : (Lib.compact zs).Pairwise (· < ·) := by
  unfold Lib.compact Lib.compactUpTo
  rw [List.pairwise_map]
  have hs := List.pairwise_iff_getElem.1 h
  refine List.Pairwise.imp_of_mem ?_ ((List.pairwise_lt_range (n := zs.length)).filter (Lib.keeps zs.toArray))
  intro i j hi hj hij
  have hj' := List.mem_range.1 (List.mem_filter.1 hj).1
  have hk := (List.mem_filter.1 hj).2
  have hi' : i < zs.length := by omega
  have hp : j - 1 < zs.length := by omega
  have h1 : zs[i] ≤ zs[j - 1] := by
    rcases Nat.lt_or_ge i (j - 1) with hh | hh
    · exact hs i (j - 1) _ _ hh
    · have : i = j - 1 := by omega
      subst this; exact Int.le_refl _
  have h2 := hs (j - 1) j hp hj' (by omega)
  have h3 : zs[j] ≠ zs[j - 1] := by
    have : j ≠ 0 := by omega
    simpa [Lib.keeps, this, hj', hp] using hk
  have e1 : zs.toArray[i]! = zs[i] := by simp [hi']
  have e2 : zs.toArray[j]! = zs[j] := by simp [hj']
  rw [e1, e2]; omega
theorem sort_pair (xs : List Int) : (xs.mergeSort fun x y => decide (x ≤ y)).Pairwise (· ≤ ·) := by
  have := List.pairwise_mergeSort (le := fun x y : Int => decide (x ≤ y)) (by intro a b c h1 h2; simp at *; omega) (by intro a b; simp; omega) xs
  exact this.imp fun h => by simpa using h
theorem mem_sort (xs : List Int) (x : Int) : x ∈ (xs.mergeSort fun x y => decide (x ≤ y)) ↔ x ∈ xs := List.mem_mergeSort
theorem rowsL_mem (xs : List Int) (x : Int) : x ∈ rowsL xs ↔ x ∈ xs := by rw [rowsL, mem_compact, mem_sort]
theorem rowsL_pair (xs : List Int) : (rowsL xs).Pairwise (· < ·) := compact_pair _ (sort_pair xs)
theorem rowsL_len (xs : List Int) : (rowsL xs).length ≤ xs.length := by
  have h1 : (Lib.compact (xs.mergeSort fun x y => decide (x ≤ y))).length ≤ (xs.mergeSort fun x y => decide (x ≤ y)).length := by
    unfold Lib.compact Lib.compactUpTo
    rw [List.length_map]
    exact Nat.le_trans (List.length_filter_le _ _) (by simp)
  rw [List.length_mergeSort] at h1
  exact h1
theorem rowsL_eq (xs : List Int) : rowsL xs = Lib.compact (xs.mergeSort fun x y => decide (x ≤ y)) := rfl
attribute [irreducible] rowsL
/-- the next candidate after k of the different numbers -/
def cand (R : List Int) (k : Nat) (x : Int) : Bool := k == 0 || decide (x > R.getD (k - 1) 0)
def leastSt (R : List Int) (k : Nat) (m x : Int) : Int := if cand R k x && (decide (m < 0) || decide (x < m)) then x else m
def leastN (xs : List Int) (k i : Nat) : Int := (xs.take i).foldl (leastSt (rowsL xs) k) (-1)
theorem leastN_zero (xs : List Int) (k : Nat) : leastN xs k 0 = -1 := by simp [leastN]
theorem leastN_succ (xs : List Int) (k i : Nat) (h : i < xs.length) : leastN xs k (i + 1) = leastSt (rowsL xs) k (leastN xs k i) xs[i] := by
  rw [leastN, List.take_succ_eq_append_getElem h, List.foldl_append]; rfl
theorem foldl_least (R : List Int) (k : Nat) : ∀ (xs : List Int), (∀ x ∈ xs, 0 ≤ x) → ∀ m : Int, (m = -1 ∨ 0 ≤ m) →
    let r := xs.foldl (leastSt R k) m
    (r = m ∨ (r ∈ xs ∧ cand R k r = true)) ∧ (r = -1 ∨ 0 ≤ r) ∧ (0 ≤ m → r ≤ m ∧ 0 ≤ r) ∧ ∀ x ∈ xs, cand R k x = true → 0 ≤ r ∧ r ≤ x := by
  intro xs
  induction xs with
  | nil => intro _ m hm; simp; exact hm
  | cons x t ih =>
    intro hx m hm
    have h0 := hx x (by simp)
    have hm' : leastSt R k m x = -1 ∨ 0 ≤ leastSt R k m x := by unfold leastSt; split <;> omega
    have := ih (fun y hy => hx y (by simp [hy])) (leastSt R k m x) hm'
    simp only [List.foldl_cons]
    obtain ⟨a1, a2, a3, a4⟩ := this
    refine ⟨?_, a2, ?_, ?_⟩
    · rcases a1 with a1 | a1
      · rw [a1]
        unfold leastSt
        split
        · rename_i hc
          simp only [Bool.and_eq_true] at hc
          exact .inr ⟨by simp, hc.1⟩
        · exact .inl rfl
      · exact .inr ⟨by simp [a1.1], a1.2⟩
    · intro hm0
      have h1 : 0 ≤ leastSt R k m x ∧ leastSt R k m x ≤ m := by
        unfold leastSt
        split
        · rename_i hc
          simp only [Bool.and_eq_true, Bool.or_eq_true, decide_eq_true_eq] at hc
          omega
        · omega
      have h2 := a3 h1.1
      omega
    · intro y hy hc
      rcases List.mem_cons.1 hy with rfl | hy
      · have h1 : 0 ≤ leastSt R k m y ∧ leastSt R k m y ≤ y := by
          unfold leastSt
          split
          · omega
          · rename_i hn
            simp only [hc, Bool.true_and, Bool.or_eq_true, decide_eq_true_eq, not_or] at hn
            omega
        have h2 := a3 h1.1
        omega
      · exact a4 y hy hc
theorem leastN_len (xs : List Int) (h : ∀ x ∈ xs, 0 ≤ x) (k : Nat) (hk : k ≤ (rowsL xs).length) : leastN xs k xs.length = if h : k < (rowsL xs).length then (rowsL xs)[k] else -1 := by
  have hp := List.pairwise_iff_getElem.1 (rowsL_pair xs)
  have := foldl_least (rowsL xs) k xs h (-1) (.inl rfl)
  simp only at this
  rw [leastN, List.take_length]
  generalize List.foldl (leastSt (rowsL xs) k) (-1) xs = r at this
  obtain ⟨a1, a2, _, a4⟩ := this
  have hc : ∀ i (hi : i < (rowsL xs).length), cand (rowsL xs) k (rowsL xs)[i] = true ↔ k ≤ i := by
    intro i hi
    unfold cand
    by_cases hk0 : k = 0
    · subst hk0; simp
    · have h1 : k - 1 < (rowsL xs).length := by omega
      have e : (rowsL xs).getD (k - 1) 0 = (rowsL xs)[k - 1] := by simp [List.getD_eq_getElem?_getD, h1]
      rw [e]
      simp only [Bool.or_eq_true, beq_iff_eq, hk0, false_or, decide_eq_true_eq]
      constructor
      · intro h2
        rcases Nat.lt_or_ge i k with h3 | h3
        · exfalso
          rcases Nat.lt_or_ge i (k - 1) with h4 | h4
          · have := hp i (k - 1) hi h1 h4; omega
          · have : i = k - 1 := by omega
            subst this; omega
        · exact h3
      · intro h2
        have := hp (k - 1) i h1 hi (by omega)
        omega
  split
  · rename_i hk2
    have hm := (rowsL_mem xs _).1 (List.getElem_mem hk2)
    have h1 := a4 _ hm ((hc k hk2).2 (Nat.le_refl _))
    rcases a1 with a1 | a1
    · omega
    · obtain ⟨i, hi, he⟩ := List.getElem_of_mem ((rowsL_mem xs r).2 a1.1)
      have h2 := (hc i hi).1 (by rw [he]; exact a1.2)
      rcases Nat.lt_or_ge k i with h3 | h3
      · have := hp k i hk2 hi h3; omega
      · have : i = k := by omega
        subst this; exact he.symm
  · rename_i hk2
    rcases a1 with a1 | a1
    · exact a1
    · obtain ⟨i, hi, he⟩ := List.getElem_of_mem ((rowsL_mem xs r).2 a1.1)
      have h2 := (hc i hi).1 (by rw [he]; exact a1.2)
      omega
end Go.Vc
