/-
  Contracts: a journal, run on a register: by the program, by the reference; the law on it.
-/
import Derived.Test.YtnmaeefcjdbpcaaGreatDoorJournal
import Derived.Test.YtnmaeefcjdbpcaaGreatDoorEvents
import Derived.Test.YtnmaeefcjdbpcaaGreatDoorRegs
import Derived.Test.YtnmaeefcjdbpcaaGreatDoorEvData
set_option linter.unusedVariables false
set_option linter.unusedSimpArgs false
set_option linter.unnecessarySimpa false
namespace Go.Vc
open Go.Proofs Go.Lib
set_option maxRecDepth 100000
attribute [go_sem] decide_true
theorem runEvents_len2 (r : RegM) (es : List EvM) : (runEvents r es).1.tags.length ≤ r.tags.length ∧ (runEvents r es).1.roles.length ≤ r.roles.length := by
  unfold runEvents; split
  · have := runEv_inv r es es.length (Nat.le_refl _)
    rw [List.take_length] at this
    simp [this.1, this.2.1]
  · simp
def repJ (r : RegM) (t : List UInt8) : RegM × Int × Int := if (rdJ t).2 = 0 then runEvents r (rdJ t).1 else (⟨[], []⟩, 0, (rdJ t).2)
theorem repJ_len (r : RegM) (t : List UInt8) : (repJ r t).1.tags.length ≤ r.tags.length ∧ (repJ r t).1.roles.length ≤ r.roles.length := by
  unfold repJ; split
  · exact runEvents_len2 r _
  · simp
theorem c_iReplayJournal (r : RegM) (t : List UInt8) (h1 : r.tags.length ≤ 1048576) (h2 : r.roles.length ≤ 1048576) (h : t.length ≤ 1048576) : Fn Tryz.prog 8 [eReg r, eS t] true (· = .tup [eReg (repJ r t).1, eI (repJ r t).2.1, eI (repJ r t).2.2]) := by
  refine Fn.of_vcN 24 [.cell 4 29, .tmp 5, .tmp 6] Tryz.func8 rfl rfl rfl rfl rfl (of_decide_eq_true rfl) ?_
  unfold repJ
  have hf := rdJ_facts t
  have hc := c_iReadJournal t h
  generalize rdJ t = a at *
  obtain ⟨es, code⟩ := a
  dsimp only at hf hc ⊢
  have c2 := c_iRunEvents r es h1 h2 (by omega)
  generalize runEvents r es = q at *
  simp -dsimp -implicitDefEqProofs only [go_sem, ↓reduceIte, Nat.reduceEqDiff, Nat.reduceLT, Nat.reduceAdd, Nat.reduceMul, Nat.reduceLeDiff, Nat.le_refl, Int.natCast_zero, Int.toNat_natCast, Int.reduceToNat]
  refine sCallT_one hc ?_
  rcases hk : (code != 0) with _ | _
  · have h0 : code = 0 := by simpa using hk
    rw [if_pos h0]
    simp -dsimp -implicitDefEqProofs only [go_sem, ↓reduceIte, Nat.reduceEqDiff, Nat.reduceLT, Nat.reduceAdd, Nat.reduceMul, Nat.reduceLeDiff, Nat.le_refl, Int.natCast_zero, Int.toNat_natCast, Int.reduceToNat, hk]
    refine sCallT_one c2 ?_
    simp -dsimp -implicitDefEqProofs only [go_sem, ↓reduceIte, Nat.reduceEqDiff, Nat.reduceLT, Nat.reduceAdd, Nat.reduceMul, Nat.reduceLeDiff, Nat.le_refl, Int.natCast_zero, Int.toNat_natCast, Int.reduceToNat]
    repeat' (with_reducible refine And.intro ?_ ?_)
    all_goals (first | omega | (refine ⟨?_, ?_⟩ <;> omega) | (exact rfl) | (simp; done) | trace_state)
  · have h0 : ¬ code = 0 := by simpa using hk
    rw [if_neg h0]
    simp -dsimp -implicitDefEqProofs only [go_sem, ↓reduceIte, Nat.reduceEqDiff, Nat.reduceLT, Nat.reduceAdd, Nat.reduceMul, Nat.reduceLeDiff, Nat.le_refl, Int.natCast_zero, Int.toNat_natCast, Int.reduceToNat, hk]
    repeat' (with_reducible refine And.intro ?_ ?_)
    all_goals (first | omega | (refine ⟨?_, ?_⟩ <;> omega) | (exact rfl) | (simp; done) | trace_state)
theorem c_sReplayJournal (r : RegM) (t : List UInt8) (h1 : r.tags.length ≤ 1048576) (h2 : r.roles.length ≤ 1048576) (h : t.length ≤ 1048576) : Fn Tryz.prog 6 [eReg r, eS t] true (· = .tup [eReg (repJ r t).1, eI (repJ r t).2.1, eI (repJ r t).2.2]) := by
  refine Fn.of_vcN 24 [.cell 4 29, .tmp 5, .tmp 6] Tryz.func6 rfl rfl rfl rfl rfl (of_decide_eq_true rfl) ?_
  unfold repJ
  have hf := rdJ_facts t
  have hc := c_sReadJournal t h
  generalize rdJ t = a at *
  obtain ⟨es, code⟩ := a
  dsimp only at hf hc ⊢
  have c2 := c_sRunEvents r es h1 h2 (by omega)
  generalize runEvents r es = q at *
  simp -dsimp -implicitDefEqProofs only [go_sem, ↓reduceIte, Nat.reduceEqDiff, Nat.reduceLT, Nat.reduceAdd, Nat.reduceMul, Nat.reduceLeDiff, Nat.le_refl, Int.natCast_zero, Int.toNat_natCast, Int.reduceToNat]
  refine sCallT_one hc ?_
  rcases hk : (code != 0) with _ | _
  · have h0 : code = 0 := by simpa using hk
    rw [if_pos h0]
    simp -dsimp -implicitDefEqProofs only [go_sem, ↓reduceIte, Nat.reduceEqDiff, Nat.reduceLT, Nat.reduceAdd, Nat.reduceMul, Nat.reduceLeDiff, Nat.le_refl, Int.natCast_zero, Int.toNat_natCast, Int.reduceToNat, hk]
    refine sCallT_one c2 ?_
    simp -dsimp -implicitDefEqProofs only [go_sem, ↓reduceIte, Nat.reduceEqDiff, Nat.reduceLT, Nat.reduceAdd, Nat.reduceMul, Nat.reduceLeDiff, Nat.le_refl, Int.natCast_zero, Int.toNat_natCast, Int.reduceToNat]
    repeat' (with_reducible refine And.intro ?_ ?_)
    all_goals (first | omega | (refine ⟨?_, ?_⟩ <;> omega) | (exact rfl) | (simp; done) | trace_state)
  · have h0 : ¬ code = 0 := by simpa using hk
    rw [if_neg h0]
    simp -dsimp -implicitDefEqProofs only [go_sem, ↓reduceIte, Nat.reduceEqDiff, Nat.reduceLT, Nat.reduceAdd, Nat.reduceMul, Nat.reduceLeDiff, Nat.le_refl, Int.natCast_zero, Int.toNat_natCast, Int.reduceToNat, hk]
    repeat' (with_reducible refine And.intro ?_ ?_)
    all_goals (first | omega | (refine ⟨?_, ?_⟩ <;> omega) | (exact rfl) | (simp; done) | trace_state)
theorem c_FnExactReplayJournal (r : RegM) (t : List UInt8) (h1 : r.tags.length ≤ 9223372036854775807) (h2 : r.roles.length ≤ 9223372036854775807) : Fn Tryz.prog 3 [eReg r, eS t] true (· = eB true) := by
  refine Fn.of_vcN 125 [.tmp 4] Tryz.func3 rfl rfl rfl rfl rfl (of_decide_eq_true rfl) ?_
  simp -dsimp -implicitDefEqProofs only [go_sem, ↓reduceIte, Nat.reduceEqDiff, Nat.reduceLT, Nat.reduceAdd, Nat.reduceMul, Nat.reduceLeDiff, Nat.le_refl, Int.natCast_zero, Int.toNat_natCast, Int.reduceToNat]
  rcases hk : decide ((t.length : Int) > 1048576) with _ | _
  · have h7 := of_decide_eq_false hk
    simp -dsimp -implicitDefEqProofs only [go_sem, ↓reduceIte, Nat.reduceEqDiff, Nat.reduceLT, Nat.reduceAdd, Nat.reduceMul, Nat.reduceLeDiff, Nat.le_refl, Int.natCast_zero, Int.toNat_natCast, Int.reduceToNat, hk]
    refine sCallT_one (c_szRegister _ h1 h2) ?_
    simp -dsimp -implicitDefEqProofs only [go_sem, ↓reduceIte, Nat.reduceEqDiff, Nat.reduceLT, Nat.reduceAdd, Nat.reduceMul, Nat.reduceLeDiff, Nat.le_refl, Int.natCast_zero, Int.toNat_natCast, Int.reduceToNat]
    repeat' (refine Br.intro (fun _ => ?_) (fun _ => ?_) <;> try simp -dsimp -implicitDefEqProofs only [go_sem, ↓reduceIte, Nat.reduceEqDiff, Nat.reduceLT, Nat.reduceAdd, Nat.reduceMul, Nat.reduceLeDiff, Nat.le_refl, Int.natCast_zero, Int.toNat_natCast, Int.reduceToNat, *])
    have h4 : r.tags.length + r.roles.length ≤ 1048576 := by
      rename_i h3
      simp at h3
      split at h3 <;> omega
    have h5 : r.tags.length ≤ 1048576 := by omega
    have h6 : r.roles.length ≤ 1048576 := by omega
    have h9 := repJ_len r t
    have c1 := c_sReplayJournal r t h5 h6 (by omega)
    have c2 := c_iReplayJournal r t h5 h6 (by omega)
    generalize repJ r t = a at *
    obtain ⟨g, n, code⟩ := a
    dsimp only at h9 c1 c2
    repeat' first
      | (refine Br.intro (fun _ => ?_) (fun _ => ?_) <;> try simp -dsimp -implicitDefEqProofs only [go_sem, ↓reduceIte, Nat.reduceEqDiff, Nat.reduceLT, Nat.reduceAdd, Nat.reduceMul, Nat.reduceLeDiff, Nat.le_refl, Int.natCast_zero, Int.toNat_natCast, Int.reduceToNat, *])
      | (with_reducible refine And.intro ?_ ?_)
      | (refine sCallT_one c1 ?_; try simp -dsimp -implicitDefEqProofs only [go_sem, ↓reduceIte, Nat.reduceEqDiff, Nat.reduceLT, Nat.reduceAdd, Nat.reduceMul, Nat.reduceLeDiff, Nat.le_refl, Int.natCast_zero, Int.toNat_natCast, Int.reduceToNat, *])
      | (refine sCallT_one c2 ?_; try simp -dsimp -implicitDefEqProofs only [go_sem, ↓reduceIte, Nat.reduceEqDiff, Nat.reduceLT, Nat.reduceAdd, Nat.reduceMul, Nat.reduceLeDiff, Nat.le_refl, Int.natCast_zero, Int.toNat_natCast, Int.reduceToNat, *])
      | (refine sCallT_io [37000, 37001] ?_; simp -dsimp -implicitDefEqProofs only [go_sem, ↓reduceIte, Nat.reduceEqDiff, Nat.reduceLT, Nat.reduceAdd, Nat.reduceMul, Nat.reduceLeDiff, Nat.le_refl, Int.natCast_zero, Int.toNat_natCast, Int.reduceToNat]; refine sCallM_one (c_markRegister r 1 0 0 true true (by omega) (by omega) (by omega)) ?_; try simp -dsimp -implicitDefEqProofs only [go_sem, ↓reduceIte, Nat.reduceEqDiff, Nat.reduceLT, Nat.reduceAdd, Nat.reduceMul, Nat.reduceLeDiff, Nat.le_refl, Int.natCast_zero, Int.toNat_natCast, Int.reduceToNat, *])
      | (refine sCallT_io [41000, 41001] ?_; simp -dsimp -implicitDefEqProofs only [go_sem, ↓reduceIte, Nat.reduceEqDiff, Nat.reduceLT, Nat.reduceAdd, Nat.reduceMul, Nat.reduceLeDiff, Nat.le_refl, Int.natCast_zero, Int.toNat_natCast, Int.reduceToNat]; refine sCallM_one (c_markRegister g 1 0 0 true true (by omega) (by omega) (by omega)) ?_; try simp -dsimp -implicitDefEqProofs only [go_sem, ↓reduceIte, Nat.reduceEqDiff, Nat.reduceLT, Nat.reduceAdd, Nat.reduceMul, Nat.reduceLeDiff, Nat.le_refl, Int.natCast_zero, Int.toNat_natCast, Int.reduceToNat, *])
      | (refine sCallT_one (c_heldRegister g.tags.length g.roles.length 1 (by omega) (by omega) (by omega)) ?_; try simp -dsimp -implicitDefEqProofs only [go_sem, ↓reduceIte, Nat.reduceEqDiff, Nat.reduceLT, Nat.reduceAdd, Nat.reduceMul, Nat.reduceLeDiff, Nat.le_refl, Int.natCast_zero, Int.toNat_natCast, Int.reduceToNat, *])
      | (refine sCallX_one c1 ?_; try simp -dsimp -implicitDefEqProofs only [go_sem, ↓reduceIte, Nat.reduceEqDiff, Nat.reduceLT, Nat.reduceAdd, Nat.reduceMul, Nat.reduceLeDiff, Nat.le_refl, Int.natCast_zero, Int.toNat_natCast, Int.reduceToNat, *])
      | (refine sCallX_one c2 ?_; try simp -dsimp -implicitDefEqProofs only [go_sem, ↓reduceIte, Nat.reduceEqDiff, Nat.reduceLT, Nat.reduceAdd, Nat.reduceMul, Nat.reduceLeDiff, Nat.le_refl, Int.natCast_zero, Int.toNat_natCast, Int.reduceToNat, *])
      | (refine sCallX_one (c_heldRegister g.tags.length g.roles.length 1 (by omega) (by omega) (by omega)) ?_; try simp -dsimp -implicitDefEqProofs only [go_sem, ↓reduceIte, Nat.reduceEqDiff, Nat.reduceLT, Nat.reduceAdd, Nat.reduceMul, Nat.reduceLeDiff, Nat.le_refl, Int.natCast_zero, Int.toNat_natCast, Int.reduceToNat, *])
      | (refine sCallT_one (c_toRegister _ h5 h6) ?_; try simp -dsimp -implicitDefEqProofs only [go_sem, ↓reduceIte, Nat.reduceEqDiff, Nat.reduceLT, Nat.reduceAdd, Nat.reduceMul, Nat.reduceLeDiff, Nat.le_refl, Int.natCast_zero, Int.toNat_natCast, Int.reduceToNat, *])
      | (refine sCallT_one (c_eqRegister _ _ (by omega) (by omega)) ?_; try simp -dsimp -implicitDefEqProofs only [go_sem, ↓reduceIte, Nat.reduceEqDiff, Nat.reduceLT, Nat.reduceAdd, Nat.reduceMul, Nat.reduceLeDiff, Nat.le_refl, Int.natCast_zero, Int.toNat_natCast, Int.reduceToNat, *])
      | (refine sCallX_one (c_toRegister _ h5 h6) ?_; try simp -dsimp -implicitDefEqProofs only [go_sem, ↓reduceIte, Nat.reduceEqDiff, Nat.reduceLT, Nat.reduceAdd, Nat.reduceMul, Nat.reduceLeDiff, Nat.le_refl, Int.natCast_zero, Int.toNat_natCast, Int.reduceToNat, *])
      | (refine sCallX_one (c_eqRegister _ _ (by omega) (by omega)) ?_; try simp -dsimp -implicitDefEqProofs only [go_sem, ↓reduceIte, Nat.reduceEqDiff, Nat.reduceLT, Nat.reduceAdd, Nat.reduceMul, Nat.reduceLeDiff, Nat.le_refl, Int.natCast_zero, Int.toNat_natCast, Int.reduceToNat, *])
      | (refine Later.draw mixed rfl ?_; try simp -dsimp -implicitDefEqProofs only [go_sem, ↓reduceIte, Nat.reduceEqDiff, Nat.reduceLT, Nat.reduceAdd, Nat.reduceMul, Nat.reduceLeDiff, Nat.le_refl, Int.natCast_zero, Int.toNat_natCast, Int.reduceToNat, *])
    all_goals first
      | omega | (refine ⟨?_, ?_⟩ <;> omega) | (simp; done) | (simp; omega)
      | rfl
      | (simp_all; done)
      | (simp_all; omega)
      | trace_state
  · simp -dsimp -implicitDefEqProofs only [go_sem, ↓reduceIte, Nat.reduceEqDiff, Nat.reduceLT, Nat.reduceAdd, Nat.reduceMul, Nat.reduceLeDiff, Nat.le_refl, Int.natCast_zero, Int.toNat_natCast, Int.reduceToNat, hk]
    repeat' (with_reducible refine And.intro ?_ ?_)
    all_goals (first | omega | (refine ⟨?_, ?_⟩ <;> omega) | (exact rfl) | (simp; done) | trace_state)
end Go.Vc
