/-
  Plain laws: states counted over all tags; lost rows; events run one by one.
-/
import Derived.Test.YtphhlffifljciaaDraws
import Derived.Test.YtphhlffifljciaaTell
import Derived.Test.YtphhlffifljciaaLost
set_option linter.unusedVariables false
set_option linter.unusedSimpArgs false
set_option linter.unnecessarySimpa false
namespace Go.Vc
open Go.Proofs
set_option maxRecDepth 100000
theorem runEvents_len2 (r : RegM) (es : List EvM) : (runEvents r es).1.tags.length ≤ r.tags.length ∧ (runEvents r es).1.roles.length ≤ r.roles.length := by
  unfold runEvents; split
  · have := runEv_inv r es es.length (Nat.le_refl _)
    rw [List.take_length] at this
    simp [this.1, this.2.1]
  · simp
theorem lostRows_len (r : RegM) : (lostRows r).1.length ≤ r.tags.length := by
  unfold lostRows; split
  · exact Nat.le_trans (rowsL_len _) (lostN_len _ _)
  · simp
theorem cntStep_facts {c : List Int} {t : TagM} (hc : c.length = 4) (ht : 0 ≤ t.state ∧ t.state ≤ 3) :
    (cntStep c t).sum = c.sum + 1 ∧ (cntStep c t).getD 2 0 = c.getD 2 0 + (if t.state == 2 then 1 else 0) := by
  match c, hc with
  | [a, b, d, e], _ =>
    have : t.state = 0 ∨ t.state = 1 ∨ t.state = 2 ∨ t.state = 3 := by omega
    rcases this with h | h | h | h <;> (simp [cntStep, h] <;> omega)
theorem cnt_facts {r : RegM} (h : isReg r = true) (i : Nat) (hi : i ≤ r.tags.length) : (cnt (r.tags.take i)).sum = i ∧ (cnt (r.tags.take i)).getD 2 0 = ((lostN r.tags i).length : Int) := by
  induction i with
  | zero => rw [lostN_zero, List.take_zero, cnt_nil]; simp
  | succ i ih =>
    have hlt : i < r.tags.length := by omega
    obtain ⟨a, b⟩ := ih (by omega)
    obtain ⟨c, d⟩ := cntStep_facts (cnt_inv r.tags i (by omega)).1 (tag_state h hlt)
    rw [cnt_take _ _ hlt, c, d, a, b, lostN_succ _ _ hlt]
    refine ⟨by omega, ?_⟩
    cases hs : (r.tags[i].state == 2) <;> simp
theorem rowsL_nil {xs : List Int} : (0 < (rowsL xs).length) ↔ 0 < xs.length := by
  constructor
  · intro h
    have := (rowsL_mem xs _).1 (List.getElem_mem h)
    exact List.length_pos_of_mem this
  · intro h
    have := (rowsL_mem xs _).2 (List.getElem_mem h)
    exact List.length_pos_of_mem this
theorem states_facts {r : RegM} (h : (countStates r).2 = 0) : (countStates r).1.length = 4 ∧ (∀ x ∈ (countStates r).1, 0 ≤ x ∧ x ≤ r.tags.length) ∧ (countStates r).1.sum = r.tags.length ∧
    ∃ n, (countStates r).1[2]? = some n ∧ decide (n > 0) = decide ((((lostRows r).1.length : Nat) : Int) > 0) := by
  unfold countStates at *
  split at h
  · rename_i hr
    rw [if_pos hr]
    have h1 := cnt_inv r.tags r.tags.length (Nat.le_refl _)
    have h2 := cnt_facts hr r.tags.length (Nat.le_refl _)
    rw [List.take_length] at h1 h2
    refine ⟨h1.1, h1.2, h2.1, (cnt r.tags).getD 2 0, ?_, ?_⟩
    · have : 2 < (cnt r.tags).length := by omega
      simp [this]
    · rw [h2.2]
      have h3 := @rowsL_nil (lostN r.tags r.tags.length)
      have h4 : (lostRows r).1 = rowsL (lostN r.tags r.tags.length) := by rw [lostRows, if_pos hr]
      rw [h4]
      rcases Nat.lt_or_ge 0 (lostN r.tags r.tags.length).length with h5 | h5
      · rw [decide_eq_true (by omega), decide_eq_true (by have := h3.2 h5; omega)]
      · rw [decide_eq_false (by omega), decide_eq_false (by have := fun h6 => h3.1 h6; omega)]
  · cases h
theorem countStates_no {r : RegM} (h : (countStates r).2 ≠ 0) : (countStates r).1 = [] := by
  unfold countStates at *
  split at h
  · exact absurd rfl h
  · rename_i hr; rw [if_neg hr]
/-- one event more -/
theorem runEv_reg {r : RegM} {es : List EvM} (hr : isReg r = true) (he : ∀ e ∈ es, isEv r e = true) (i : Nat) (hi : i ≤ es.length) : isReg (runEv r (es.take i)).1 = true := by
  induction i with
  | zero => simpa [runEv] using hr
  | succ i ih =>
    have hlt : i < es.length := by omega
    have h1 := ih (by omega)
    obtain ⟨p1, p2, p3, p4⟩ := runEv_inv r es i (by omega)
    rw [runEv_take _ _ _ hlt]
    generalize runEv r (es.take i) = p at *
    unfold stepEv
    split
    · rename_i hc
      refine isReg_apply h1 ?_ hc
      have := he _ (List.getElem_mem hlt)
      rw [← isEv_eq p.1.tags r _ p2] at this
      rwa [show (⟨p.1.tags, r.roles⟩ : RegM) = p.1 by rw [← p1]] at this
    · exact h1
theorem apply_step {r : RegM} {es : List EvM} (hr : isReg r = true) (he : ∀ e ∈ es, isEv r e = true) (i : Nat) (hlt : i < es.length) :
    applyEvent (runEv r (es.take i)).1 es[i] = if canEv (runEv r (es.take i)).1 es[i] = true then ((runEv r (es.take (i + 1))).1, 0) else (⟨[], []⟩, 5) := by
  have h1 := runEv_reg hr he i (by omega)
  obtain ⟨p1, p2, p3, p4⟩ := runEv_inv r es i (by omega)
  rw [runEv_take _ _ _ hlt]
  generalize runEv r (es.take i) = p at *
  have h2 := he _ (List.getElem_mem hlt)
  rw [← isEv_eq p.1.tags r _ p2, show (⟨p.1.tags, r.roles⟩ : RegM) = p.1 by rw [← p1]] at h2
  unfold applyEvent evCode stepEv
  rw [if_pos h1, if_pos h2, if_pos rfl]
  split <;> simp
theorem runEv_left {r : RegM} {es : List EvM} (i : Nat) (hlt : i < es.length) : (runEv r (es.take (i + 1))).2 = if canEv (runEv r (es.take i)).1 es[i] = true then (runEv r (es.take i)).2 else (runEv r (es.take i)).2 + 1 := by
  rw [runEv_take _ _ _ hlt, stepEv]; split <;> rfl
theorem runEv_stay {r : RegM} {es : List EvM} (i : Nat) (hlt : i < es.length) (h : canEv (runEv r (es.take i)).1 es[i] = false) : (runEv r (es.take (i + 1))).1 = (runEv r (es.take i)).1 := by
  rw [runEv_take _ _ _ hlt, stepEv, if_neg (by simp [h])]
theorem runEvents_ok {r x : RegM} {es : List EvM} {left bad : Int} (h : runEvents r es = (x, left, bad)) (hb : bad = 0) : evsCode r es = 0 ∧ x = (runEv r es).1 ∧ left = (runEv r es).2 := by
  subst hb
  unfold runEvents at h
  split at h
  · injection h with h1 h2; injection h2 with h2 h3; exact ⟨‹_›, h1.symm, h2.symm⟩
  · injection h with h1 h2; injection h2 with h2 h3; exact absurd h3 ‹_›
end Go.Vc
