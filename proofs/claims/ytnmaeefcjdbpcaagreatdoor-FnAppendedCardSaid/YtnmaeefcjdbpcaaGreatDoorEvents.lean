import Derived.Test.YtnmaeefcjdbpcaaGreatDoorRegs
import Derived.Test.YtnmaeefcjdbpcaaGreatDoorEvM
/-
  Events of a register: when one is possible, and what it does.
-/
set_option linter.unusedVariables false
set_option linter.unusedSimpArgs false
set_option linter.unnecessarySimpa false
namespace Go.Vc
open Go.Proofs
set_option maxRecDepth 100000
def isEv (r : RegM) (e : EvM) : Bool := isEvent e r.tags.length r.roles.length
def roleOf (r : RegM) (e : EvM) : Int := r.roles.getD e.who.toNat 0
def tagOf (r : RegM) (e : EvM) : TagM := r.tags.getD e.tag.toNat ⟨0, 0, 0⟩
def before (k : Int) : Int := if k = 1 ∨ k = 2 then 1 else if k = 3 then 2 else 0
def canEv (r : RegM) (e : EvM) : Bool := decide (roleOf r e ≥ (if e.kind ≥ 3 then 2 else 1)) && (tagOf r e).state == before e.kind
def applyTag (x : TagM) (e : EvM) : TagM := if e.kind = 0 then ⟨x.row, 1, e.person⟩ else if e.kind = 2 then ⟨x.row, 2, x.person⟩ else if e.kind = 4 then ⟨x.row, 3, -1⟩ else ⟨x.row, 0, -1⟩
def applyEv (r : RegM) (e : EvM) : RegM := ⟨r.tags.set e.tag.toNat (applyTag (tagOf r e) e), r.roles⟩
theorem isEv_in {r : RegM} {e : EvM} (h : isEv r e = true) : (0 ≤ e.kind ∧ e.kind ≤ 4) ∧ (0 ≤ e.tag ∧ e.tag < r.tags.length) ∧ (0 ≤ e.who ∧ e.who < r.roles.length) := by
  simp [isEv, isEvent, isIn] at h; omega
theorem role_get {r : RegM} {e : EvM} (h : isEv r e = true) : r.roles[e.who.toNat]? = some (roleOf r e) := by
  have := isEv_in h
  have hl : e.who.toNat < r.roles.length := by omega
  rw [roleOf, List.getD_eq_getElem?_getD, List.getElem?_eq_getElem hl]; rfl
theorem tag_get {r : RegM} {e : EvM} (h : isEv r e = true) : r.tags[e.tag.toNat]? = some (tagOf r e) := by
  have := isEv_in h
  have hl : e.tag.toNat < r.tags.length := by omega
  rw [tagOf, List.getD_eq_getElem?_getD, List.getElem?_eq_getElem hl]; rfl
theorem c_l30Person (r : RegM) (p : Int) (h : r.roles.length ≤ 1048576) : Fn Tryz.prog 81 [eReg r, eI p] true (· = eB (isIn p 0 (r.roles.length - 1))) := by
  refine Fn.of_vcN 11 [.tmp 4] Tryz.func81 rfl rfl rfl rfl rfl (of_decide_eq_true rfl) ?_
  simp -dsimp -implicitDefEqProofs only [go_sem, ↓reduceIte, Nat.reduceEqDiff, Nat.reduceLT, Nat.reduceAdd, Nat.reduceMul, Nat.reduceLeDiff, Nat.le_refl, Int.natCast_zero, Int.toNat_natCast, Int.reduceToNat]
  repeat' first
    | (with_reducible refine And.intro ?_ ?_)
    | (refine sCallT_one (c_l01In _ _ _) ?_; try simp -dsimp -implicitDefEqProofs only [go_sem, ↓reduceIte, Nat.reduceEqDiff, Nat.reduceLT, Nat.reduceAdd, Nat.reduceMul, Nat.reduceLeDiff, Nat.le_refl, Int.natCast_zero, Int.toNat_natCast, Int.reduceToNat, *])
  all_goals first | omega | (refine ⟨?_, ?_⟩ <;> omega) | rfl | (simp; done) | (simp_all []; done) | (simp_all []; omega) | (simp_all []; split <;> simp_all <;> omega) | trace_state
theorem c_l30Event (r : RegM) (e : EvM) (h1 : r.tags.length ≤ 1048576) (h2 : r.roles.length ≤ 1048576) : Fn Tryz.prog 56 [eReg r, eEv e] true (· = eB (isEv r e)) := by
  refine Fn.of_vcN 36 [.tmp 4] Tryz.func56 rfl rfl rfl rfl rfl (of_decide_eq_true rfl) ?_
  simp -dsimp -implicitDefEqProofs only [go_sem, ↓reduceIte, Nat.reduceEqDiff, Nat.reduceLT, Nat.reduceAdd, Nat.reduceMul, Nat.reduceLeDiff, Nat.le_refl, Int.natCast_zero, Int.toNat_natCast, Int.reduceToNat]
  repeat' first
    | (refine Br.intro (fun _ => ?_) (fun _ => ?_) <;> try simp -dsimp -implicitDefEqProofs only [go_sem, ↓reduceIte, Nat.reduceEqDiff, Nat.reduceLT, Nat.reduceAdd, Nat.reduceMul, Nat.reduceLeDiff, Nat.le_refl, Int.natCast_zero, Int.toNat_natCast, Int.reduceToNat, *])
    | (with_reducible refine And.intro ?_ ?_)
    | (refine sCallT_one (c_l01In _ _ _) ?_; try simp -dsimp -implicitDefEqProofs only [go_sem, ↓reduceIte, Nat.reduceEqDiff, Nat.reduceLT, Nat.reduceAdd, Nat.reduceMul, Nat.reduceLeDiff, Nat.le_refl, Int.natCast_zero, Int.toNat_natCast, Int.reduceToNat, *])
    | (refine sCallT_one (c_l30Person _ _ h2) ?_; try simp -dsimp -implicitDefEqProofs only [go_sem, ↓reduceIte, Nat.reduceEqDiff, Nat.reduceLT, Nat.reduceAdd, Nat.reduceMul, Nat.reduceLeDiff, Nat.le_refl, Int.natCast_zero, Int.toNat_natCast, Int.reduceToNat, *])
  all_goals first | omega | (refine ⟨?_, ?_⟩ <;> omega) | rfl | (simp; done) | (simp_all [isEv, isEvent]; done) | (simp_all [isEv, isEvent]; omega) | (simp_all [isEv, isEvent]; split <;> simp_all <;> omega) | trace_state
theorem c_l30Role (k : Int) : Fn Tryz.prog 82 [eI k] true (· = eI (if k ≥ 3 then 2 else 1)) := by
  refine Fn.of_vcN 5 [.tmp 2] Tryz.func82 rfl rfl rfl rfl rfl (of_decide_eq_true rfl) ?_
  simp -dsimp -implicitDefEqProofs only [go_sem, ↓reduceIte, Nat.reduceEqDiff, Nat.reduceLT, Nat.reduceAdd, Nat.reduceMul, Nat.reduceLeDiff, Nat.le_refl, Int.natCast_zero, Int.toNat_natCast, Int.reduceToNat]
  repeat' (refine Br.intro (fun _ => ?_) (fun _ => ?_) <;> try simp -dsimp -implicitDefEqProofs only [go_sem, ↓reduceIte, Nat.reduceEqDiff, Nat.reduceLT, Nat.reduceAdd, Nat.reduceMul, Nat.reduceLeDiff, Nat.le_refl, Int.natCast_zero, Int.toNat_natCast, Int.reduceToNat, *])
  all_goals first | omega | (refine ⟨?_, ?_⟩ <;> omega) | rfl | (simp; done) | (simp_all []; done) | (simp_all []; omega) | (simp_all []; split <;> simp_all <;> omega) | trace_state
theorem c_l30Before (k : Int) (hk : 0 ≤ k ∧ k ≤ 4) : Fn Tryz.prog 83 [eI k] true (· = eI (before k)) := by
  refine Fn.of_vcN 7 [.tmp 2] Tryz.func83 rfl rfl rfl rfl rfl (of_decide_eq_true rfl) ?_
  have h : k = 0 ∨ k = 1 ∨ k = 2 ∨ k = 3 ∨ k = 4 := by omega
  rcases h with rfl | rfl | rfl | rfl | rfl
  all_goals
    simp -dsimp -implicitDefEqProofs only [go_sem, ↓reduceIte, Nat.reduceEqDiff, Nat.reduceLT, Nat.reduceAdd, Nat.reduceMul, Nat.reduceLeDiff, Nat.le_refl, Int.natCast_zero, Int.toNat_natCast, Int.reduceToNat]
    simp [before]
theorem c_l30Can (r : RegM) (e : EvM) (h : isEv r e = true) : Fn Tryz.prog 58 [eReg r, eEv e] true (· = eB (canEv r e)) := by
  refine Fn.of_vcN 28 [.tmp 4] Tryz.func58 rfl rfl rfl rfl rfl (of_decide_eq_true rfl) ?_
  have h1 := isEv_in h
  have h2 := role_get h
  have h3 := tag_get h
  simp -dsimp -implicitDefEqProofs only [go_sem, ↓reduceIte, Nat.reduceEqDiff, Nat.reduceLT, Nat.reduceAdd, Nat.reduceMul, Nat.reduceLeDiff, Nat.le_refl, Int.natCast_zero, Int.toNat_natCast, Int.reduceToNat]
  (refine Later.draw mixed rfl ?_; try simp -dsimp -implicitDefEqProofs only [go_sem, ↓reduceIte, Nat.reduceEqDiff, Nat.reduceLT, Nat.reduceAdd, Nat.reduceMul, Nat.reduceLeDiff, Nat.le_refl, Int.natCast_zero, Int.toNat_natCast, Int.reduceToNat, *])
  repeat' first
    | (refine Br.intro (fun _ => ?_) (fun _ => ?_) <;> try simp -dsimp -implicitDefEqProofs only [go_sem, ↓reduceIte, Nat.reduceEqDiff, Nat.reduceLT, Nat.reduceAdd, Nat.reduceMul, Nat.reduceLeDiff, Nat.le_refl, Int.natCast_zero, Int.toNat_natCast, Int.reduceToNat, *])
    | (with_reducible refine And.intro ?_ ?_)
    | (refine sCallX_one (c_l30Role _) ?_; try simp -dsimp -implicitDefEqProofs only [go_sem, ↓reduceIte, Nat.reduceEqDiff, Nat.reduceLT, Nat.reduceAdd, Nat.reduceMul, Nat.reduceLeDiff, Nat.le_refl, Int.natCast_zero, Int.toNat_natCast, Int.reduceToNat, *])
    | (refine sCallX_one (c_l30Before _ (by omega)) ?_; try simp -dsimp -implicitDefEqProofs only [go_sem, ↓reduceIte, Nat.reduceEqDiff, Nat.reduceLT, Nat.reduceAdd, Nat.reduceMul, Nat.reduceLeDiff, Nat.le_refl, Int.natCast_zero, Int.toNat_natCast, Int.reduceToNat, *])
  all_goals first | omega | (refine ⟨?_, ?_⟩ <;> omega) | rfl | (simp; done) | (simp_all [canEv]; done) | (simp_all [canEv]; omega) | (simp_all [canEv]; split <;> simp_all <;> omega) | trace_state
theorem c_l30Code (r : RegM) (e : EvM) (h1 : r.tags.length ≤ 1048576) (h2 : r.roles.length ≤ 1048576) : Fn Tryz.prog 101 [eReg r, eEv e] true (· = eI (if isReg r then (if isEv r e then 0 else 2) else 1)) := by
  refine Fn.of_vcN 12 [.tmp 4] Tryz.func101 rfl rfl rfl rfl rfl (of_decide_eq_true rfl) ?_
  simp -dsimp -implicitDefEqProofs only [go_sem, ↓reduceIte, Nat.reduceEqDiff, Nat.reduceLT, Nat.reduceAdd, Nat.reduceMul, Nat.reduceLeDiff, Nat.le_refl, Int.natCast_zero, Int.toNat_natCast, Int.reduceToNat]
  repeat' first
    | (refine Br.intro (fun _ => ?_) (fun _ => ?_) <;> try simp -dsimp -implicitDefEqProofs only [go_sem, ↓reduceIte, Nat.reduceEqDiff, Nat.reduceLT, Nat.reduceAdd, Nat.reduceMul, Nat.reduceLeDiff, Nat.le_refl, Int.natCast_zero, Int.toNat_natCast, Int.reduceToNat, *])
    | (with_reducible refine And.intro ?_ ?_)
    | (refine sCallT_one (c_sIsRegister _) ?_; try simp -dsimp -implicitDefEqProofs only [go_sem, ↓reduceIte, Nat.reduceEqDiff, Nat.reduceLT, Nat.reduceAdd, Nat.reduceMul, Nat.reduceLeDiff, Nat.le_refl, Int.natCast_zero, Int.toNat_natCast, Int.reduceToNat, *])
    | (refine sCallT_one (c_l30Event _ _ h1 h2) ?_; try simp -dsimp -implicitDefEqProofs only [go_sem, ↓reduceIte, Nat.reduceEqDiff, Nat.reduceLT, Nat.reduceAdd, Nat.reduceMul, Nat.reduceLeDiff, Nat.le_refl, Int.natCast_zero, Int.toNat_natCast, Int.reduceToNat, *])
  all_goals first | omega | (refine ⟨?_, ?_⟩ <;> omega) | rfl | (simp; done) | (simp_all []; done) | (simp_all []; omega) | (simp_all []; split <;> simp_all <;> omega) | trace_state
theorem c_l30Apply (r : RegM) (e : EvM) (h : isEv r e = true) (h1 : r.tags.length ≤ 1048576) (h2 : r.roles.length ≤ 1048576) : Fn Tryz.prog 59 [eReg r, eEv e] true (· = eReg (applyEv r e)) := by
  refine Fn.of_vcN 50 [.cell 4 29] Tryz.func59 rfl rfl rfl rfl rfl (of_decide_eq_true rfl) ?_
  have h3 := isEv_in h
  have h4 := tag_get h
  simp -dsimp -implicitDefEqProofs only [go_sem, ↓reduceIte, Nat.reduceEqDiff, Nat.reduceLT, Nat.reduceAdd, Nat.reduceMul, Nat.reduceLeDiff, Nat.le_refl, Int.natCast_zero, Int.toNat_natCast, Int.reduceToNat, h4]
  repeat' first
    | (refine Br.intro (fun _ => ?_) (fun _ => ?_) <;> try simp -dsimp -implicitDefEqProofs only [go_sem, ↓reduceIte, Nat.reduceEqDiff, Nat.reduceLT, Nat.reduceAdd, Nat.reduceMul, Nat.reduceLeDiff, Nat.le_refl, Int.natCast_zero, Int.toNat_natCast, Int.reduceToNat, *])
    | (with_reducible refine And.intro ?_ ?_)
    | (refine sCallT_one (c_l01Own _ h2) ?_; try simp -dsimp -implicitDefEqProofs only [go_sem, ↓reduceIte, Nat.reduceEqDiff, Nat.reduceLT, Nat.reduceAdd, Nat.reduceMul, Nat.reduceLeDiff, Nat.le_refl, Int.natCast_zero, Int.toNat_natCast, Int.reduceToNat, *])
  all_goals first | omega | (refine ⟨?_, ?_⟩ <;> omega) | rfl | (simp; done) | (simp_all [applyEv, applyTag, List.map_set]; done) | (simp_all [applyEv, applyTag, List.map_set]; omega) | (simp_all [applyEv, applyTag, List.map_set]; split <;> simp_all <;> omega) | trace_state
theorem c_apply (x : TagM) (e : EvM) : Fn Tryz.prog 65 [eTag x, eEv e] true (· = eTag (applyTag x e)) := by
  refine Fn.of_vcN 29 [.cell 4 78] Tryz.func65 rfl rfl rfl rfl rfl (of_decide_eq_true rfl) ?_
  simp -dsimp -implicitDefEqProofs only [go_sem, ↓reduceIte, Nat.reduceEqDiff, Nat.reduceLT, Nat.reduceAdd, Nat.reduceMul, Nat.reduceLeDiff, Nat.le_refl, Int.natCast_zero, Int.toNat_natCast, Int.reduceToNat]
  repeat' first
    | (refine Br.intro (fun _ => ?_) (fun _ => ?_) <;> try simp -dsimp -implicitDefEqProofs only [go_sem, ↓reduceIte, Nat.reduceEqDiff, Nat.reduceLT, Nat.reduceAdd, Nat.reduceMul, Nat.reduceLeDiff, Nat.le_refl, Int.natCast_zero, Int.toNat_natCast, Int.reduceToNat, *])
    | (with_reducible refine And.intro ?_ ?_)
  all_goals first | omega | (refine ⟨?_, ?_⟩ <;> omega) | rfl | (simp; done) | (simp_all [applyTag]; done) | (simp_all [applyTag]; omega) | (simp_all [applyTag]; split <;> simp_all <;> omega) | trace_state
theorem roles_in {r : RegM} (h : isReg r = true) (e : EvM) (he : isEv r e = true) : 0 ≤ roleOf r e ∧ roleOf r e ≤ 2 := by
  have h1 := role_get he
  simp only [isReg, Bool.and_eq_true, List.all_eq_true] at h
  have := h.1.2 _ (List.mem_of_getElem? h1)
  simpa [isIn] using this
theorem c_isPossible (r : RegM) (e : EvM) (h4 : 0 ≤ roleOf r e ∧ roleOf r e ≤ 2) (h : isEv r e = true) : Fn Tryz.prog 64 [eReg r, eEv e] true (· = eB (canEv r e)) := by
  refine Fn.of_vcN 53 [.tmp 4] Tryz.func64 rfl rfl rfl rfl rfl (of_decide_eq_true rfl) ?_
  have h1 := isEv_in h
  have h2 := role_get h
  have h3 := tag_get h
  simp -dsimp -implicitDefEqProofs only [go_sem, ↓reduceIte, Nat.reduceEqDiff, Nat.reduceLT, Nat.reduceAdd, Nat.reduceMul, Nat.reduceLeDiff, Nat.le_refl, Int.natCast_zero, Int.toNat_natCast, Int.reduceToNat, h2, h3]
  repeat' first
    | (refine Br.intro (fun _ => ?_) (fun _ => ?_) <;> try simp -dsimp -implicitDefEqProofs only [go_sem, ↓reduceIte, Nat.reduceEqDiff, Nat.reduceLT, Nat.reduceAdd, Nat.reduceMul, Nat.reduceLeDiff, Nat.le_refl, Int.natCast_zero, Int.toNat_natCast, Int.reduceToNat, *])
    | (with_reducible refine And.intro ?_ ?_)
  all_goals first | omega | (refine ⟨?_, ?_⟩ <;> omega) | rfl | (simp; done) | (simp_all [canEv, before]; done) | (simp_all [canEv, before]; omega) | (simp_all [canEv, before]; split <;> simp_all <;> omega) | trace_state
end Go.Vc
/-
  Running events over a register; the functions that tell of registers.
-/
set_option linter.unusedVariables false
set_option linter.unusedSimpArgs false
set_option linter.unnecessarySimpa false
namespace Go.Vc
open Go.Proofs
set_option maxRecDepth 100000
def evCode (r : RegM) (e : EvM) : Int := if isReg r then (if isEv r e then 0 else 2) else 1
def possible (r : RegM) (e : EvM) : Bool × Int := if evCode r e = 0 then (canEv r e, 0) else (false, evCode r e)
theorem evCode_zero {r : RegM} {e : EvM} (h : evCode r e = 0) : isReg r = true ∧ isEv r e = true := by
  unfold evCode at h; split at h
  · split at h
    · exact ⟨‹_›, ‹_›⟩
    · omega
  · omega
def evsCode (r : RegM) (es : List EvM) : Int := if isReg r then (if es.all (isEv r) then (if es.length > 60 then 3 else 0) else 2) else 1
theorem evsCode_one (r : RegM) (e : EvM) : evsCode r [e] = evCode r e := by simp [evsCode, evCode]
theorem c_eventCode (r : RegM) (es : List EvM) (h1 : r.tags.length ≤ 1048576) (h2 : r.roles.length ≤ 1048576) (h3 : es.length ≤ 1048576) : Fn Tryz.prog 61 [eReg r, eEvs es] true (· = eI (evsCode r es)) := by
  refine Fn.of_vcN 29 [.tmp 4] Tryz.func61 rfl rfl rfl rfl rfl (of_decide_eq_true rfl) ?_
  simp -dsimp -implicitDefEqProofs only [go_sem, ↓reduceIte, Nat.reduceEqDiff, Nat.reduceLT, Nat.reduceAdd, Nat.reduceMul, Nat.reduceLeDiff, Nat.le_refl, Int.natCast_zero, Int.toNat_natCast, Int.reduceToNat]
  repeat' first
    | (refine Br.intro (fun _ => ?_) (fun _ => ?_) <;> try simp -dsimp -implicitDefEqProofs only [go_sem, ↓reduceIte, Nat.reduceEqDiff, Nat.reduceLT, Nat.reduceAdd, Nat.reduceMul, Nat.reduceLeDiff, Nat.le_refl, Int.natCast_zero, Int.toNat_natCast, Int.reduceToNat, *])
    | (refine sCallT_one (c_iIsRegister _ h1 h2) ?_; try simp -dsimp -implicitDefEqProofs only [go_sem, ↓reduceIte, Nat.reduceEqDiff, Nat.reduceLT, Nat.reduceAdd, Nat.reduceMul, Nat.reduceLeDiff, Nat.le_refl, Int.natCast_zero, Int.toNat_natCast, Int.reduceToNat, *])
  · simp_all [evsCode]
  refine Later.up [1, 2, 10, 11] [6, 19, 22, 23] [] es.length (fun i => (es.take i).all (isEv r)) (fun i => [(12, eI i)]) (fun _ => []) (by simp) ?_ rfl (fun i hi hI => ?_) (fun hI => ?_)
  · simp -dsimp -implicitDefEqProofs only [go_sem, ↓reduceIte, Nat.reduceEqDiff, Nat.reduceLT, Nat.reduceAdd, Nat.reduceMul, Nat.reduceLeDiff, Nat.le_refl, Int.natCast_zero, Int.toNat_natCast, Int.reduceToNat]
  · simp -dsimp -implicitDefEqProofs only [pick_nil, pick_cons, look_nil, look_cons, dropB_nil, dropB_cons, inD_nil, inD_cons, inE_nil, inE_cons, or_t_l, or_f_l, Nat.reduceBEq, Nat.reduceDiv, Nat.reduceAdd, beq_self_eq_true, Bool.false_eq_true, Bool.or_false, ↓reduceIte, Nat.reduceEqDiff, List.cons_append, List.nil_append]
    have no : isEv r es[i] = false → evsCode r es = 2 := fun h => by simp_all [evsCode, all_no hi h]
    have yes : isEv r es[i] = true → ((es.take (i + 1)).all (isEv r)) = true := fun h => by rw [all_take _ _ _ hi, hI, h]; rfl
    simp -dsimp -implicitDefEqProofs only [go_sem, ↓reduceIte, Nat.reduceEqDiff, Nat.reduceLT, Nat.reduceAdd, Nat.reduceMul, Nat.reduceLeDiff, Nat.le_refl, Int.natCast_zero, Int.toNat_natCast, Int.reduceToNat, lt_len hi, get_some hi]
    repeat' first
      | (refine Br.intro (fun _ => ?_) (fun _ => ?_) <;> try simp -dsimp -implicitDefEqProofs only [go_sem, ↓reduceIte, Nat.reduceEqDiff, Nat.reduceLT, Nat.reduceAdd, Nat.reduceMul, Nat.reduceLeDiff, Nat.le_refl, Int.natCast_zero, Int.toNat_natCast, Int.reduceToNat, *])
      | (with_reducible refine And.intro ?_ ?_)
      | (refine sCallT_one (c_isEvent _ _ _ (by omega) (by omega)) ?_; try simp -dsimp -implicitDefEqProofs only [go_sem, ↓reduceIte, Nat.reduceEqDiff, Nat.reduceLT, Nat.reduceAdd, Nat.reduceMul, Nat.reduceLeDiff, Nat.le_refl, Int.natCast_zero, Int.toNat_natCast, Int.reduceToNat, *])
    all_goals first
      | omega
      | (refine ⟨?_, ?_⟩ <;> omega)
      | (simp; done)
      | (rw [no]; clear no yes; simp_all [isEv]; done)
      | (refine yes ?_; clear no yes; simp_all [isEv]; done)
      | trace_state
  · simp -dsimp -implicitDefEqProofs only [pick_nil, pick_cons, look_nil, look_cons, dropB_nil, dropB_cons, inD_nil, inD_cons, inE_nil, inE_cons, or_t_l, or_f_l, Nat.reduceBEq, Nat.reduceDiv, Nat.reduceAdd, beq_self_eq_true, Bool.false_eq_true, Bool.or_false, ↓reduceIte, Nat.reduceEqDiff, List.cons_append, List.nil_append]
    simp -dsimp -implicitDefEqProofs only [go_sem, ↓reduceIte, Nat.reduceEqDiff, Nat.reduceLT, Nat.reduceAdd, Nat.reduceMul, Nat.reduceLeDiff, Nat.le_refl, Int.natCast_zero, Int.toNat_natCast, Int.reduceToNat, nlt_len]
    rw [List.take_length] at hI
    repeat' first
      | (refine Br.intro (fun _ => ?_) (fun _ => ?_) <;> try simp -dsimp -implicitDefEqProofs only [go_sem, ↓reduceIte, Nat.reduceEqDiff, Nat.reduceLT, Nat.reduceAdd, Nat.reduceMul, Nat.reduceLeDiff, Nat.le_refl, Int.natCast_zero, Int.toNat_natCast, Int.reduceToNat, *])
      | (with_reducible refine And.intro ?_ ?_)
    all_goals first | omega | (refine ⟨?_, ?_⟩ <;> omega) | rfl | (simp; done) | (simp_all [evsCode]; done) | (simp_all [evsCode]; omega) | (simp_all [evsCode]; split <;> simp_all <;> omega) | trace_state
end Go.Vc
/-
  Events run one behind the other.
-/
set_option linter.unusedVariables false
set_option linter.unusedSimpArgs false
set_option linter.unnecessarySimpa false
namespace Go.Vc
open Go.Proofs
set_option maxRecDepth 100000
def stepEv (p : RegM × Int) (e : EvM) : RegM × Int := if canEv p.1 e then (applyEv p.1 e, p.2) else (p.1, p.2 + 1)
def runEv (r : RegM) (es : List EvM) : RegM × Int := es.foldl stepEv (r, 0)
theorem runEv_snoc (r : RegM) (es : List EvM) (e : EvM) : runEv r (es ++ [e]) = stepEv (runEv r es) e := by simp [runEv]
theorem runEv_take (r : RegM) (es : List EvM) (i : Nat) (h : i < es.length) : runEv r (es.take (i + 1)) = stepEv (runEv r (es.take i)) es[i] := by
  rw [List.take_succ_eq_append_getElem h, runEv_snoc]
theorem runEv_inv (r : RegM) (es : List EvM) (i : Nat) (h : i ≤ es.length) : (runEv r (es.take i)).1.roles = r.roles ∧ (runEv r (es.take i)).1.tags.length = r.tags.length ∧ 0 ≤ (runEv r (es.take i)).2 ∧ (runEv r (es.take i)).2 ≤ i := by
  induction i with
  | zero => simp [runEv]
  | succ i ih =>
    have ih := ih (by omega)
    rw [runEv_take r es i (by omega)]
    unfold stepEv
    split
    · simp only [applyEv, List.length_set]; exact ⟨ih.1, ih.2.1, ih.2.2.1, by omega⟩
    · exact ⟨ih.1, ih.2.1, by omega, by simp; omega⟩
def runEvents (r : RegM) (es : List EvM) : RegM × Int × Int := if evsCode r es = 0 then ((runEv r es).1, (runEv r es).2, 0) else (⟨[], []⟩, 0, evsCode r es)
theorem evsCode_zero {r : RegM} {es : List EvM} (h : evsCode r es = 0) : isReg r = true ∧ (∀ e ∈ es, isEv r e = true) ∧ es.length ≤ 60 := by
  unfold evsCode at h
  split at h
  · split at h
    · split at h
      · omega
      · rename_i h1 h2 h3; exact ⟨h1, by simpa using h2, by omega⟩
    · omega
  · omega
theorem c_CloneT (xs : List TagM) (h : xs.length ≤ 1048576) : Fn Tryz.prog 62 [eTags xs] true (· = eTags xs) := by
  refine Fn.of_vcN 8 [.tmp 2] Tryz.func62 rfl rfl rfl rfl rfl (of_decide_eq_true rfl) ?_
  simp -dsimp -implicitDefEqProofs only [go_sem, ↓reduceIte, Nat.reduceEqDiff, Nat.reduceLT, Nat.reduceAdd, Nat.reduceMul, Nat.reduceLeDiff, Nat.le_refl, Int.natCast_zero, Int.toNat_natCast, Int.reduceToNat]
  intro c hc
  repeat' first
    | (refine Br.intro (fun _ => ?_) (fun _ => ?_) <;> try simp -dsimp -implicitDefEqProofs only [go_sem, ↓reduceIte, Nat.reduceEqDiff, Nat.reduceLT, Nat.reduceAdd, Nat.reduceMul, Nat.reduceLeDiff, Nat.le_refl, Int.natCast_zero, Int.toNat_natCast, Int.reduceToNat, *])
    | (with_reducible refine And.intro ?_ ?_)
  all_goals first | omega | (refine ⟨?_, ?_⟩ <;> omega) | rfl | (simp; done) | (simp_all []; done) | (simp_all []; omega) | (simp_all []; split <;> simp_all <;> omega) | trace_state
theorem roleOf_eq (T : List TagM) (r : RegM) (e : EvM) : roleOf ⟨T, r.roles⟩ e = roleOf r e := rfl
theorem isEv_eq (T : List TagM) (r : RegM) (e : EvM) (h : T.length = r.tags.length) : isEv ⟨T, r.roles⟩ e = isEv r e := by simp [isEv, h]
theorem c_iRunEvents (r : RegM) (es : List EvM) (h1 : r.tags.length ≤ 1048576) (h2 : r.roles.length ≤ 1048576) (h3 : es.length ≤ 1048576) : Fn Tryz.prog 34 [eReg r, eEvs es] true (· = .tup [eReg (runEvents r es).1, eI (runEvents r es).2.1, eI (runEvents r es).2.2]) := by
  refine Fn.of_vcN 53 [.cell 4 29, .tmp 5, .tmp 6] Tryz.func34 rfl rfl rfl rfl rfl (of_decide_eq_true rfl) ?_
  simp -dsimp -implicitDefEqProofs only [go_sem, ↓reduceIte, Nat.reduceEqDiff, Nat.reduceLT, Nat.reduceAdd, Nat.reduceMul, Nat.reduceLeDiff, Nat.le_refl, Int.natCast_zero, Int.toNat_natCast, Int.reduceToNat]
  refine sCallT_one (c_eventCode _ _ h1 h2 h3) ?_
  simp -dsimp -implicitDefEqProofs only [go_sem, ↓reduceIte, Nat.reduceEqDiff, Nat.reduceLT, Nat.reduceAdd, Nat.reduceMul, Nat.reduceLeDiff, Nat.le_refl, Int.natCast_zero, Int.toNat_natCast, Int.reduceToNat]
  by_cases h : evsCode r es = 0
  rotate_left
  · refine Br.pos (by simpa using h) ?_
    simp -dsimp -implicitDefEqProofs only [go_sem, ↓reduceIte, Nat.reduceEqDiff, Nat.reduceLT, Nat.reduceAdd, Nat.reduceMul, Nat.reduceLeDiff, Nat.le_refl, Int.natCast_zero, Int.toNat_natCast, Int.reduceToNat]
    simp [runEvents, h]
  obtain ⟨h4, h5, h6⟩ := evsCode_zero h
  rw [h]
  simp -dsimp -implicitDefEqProofs only [go_sem, ↓reduceIte, Nat.reduceEqDiff, Nat.reduceLT, Nat.reduceAdd, Nat.reduceMul, Nat.reduceLeDiff, Nat.le_refl, Int.natCast_zero, Int.toNat_natCast, Int.reduceToNat]
  (refine Later.draw mixed rfl ?_; try simp -dsimp -implicitDefEqProofs only [go_sem, ↓reduceIte, Nat.reduceEqDiff, Nat.reduceLT, Nat.reduceAdd, Nat.reduceMul, Nat.reduceLeDiff, Nat.le_refl, Int.natCast_zero, Int.toNat_natCast, Int.reduceToNat, *])
  repeat' first
    | (with_reducible refine And.intro ?_ ?_)
    | (refine sCallX_one (c_CloneT _ h1) ?_; try simp -dsimp -implicitDefEqProofs only [go_sem, ↓reduceIte, Nat.reduceEqDiff, Nat.reduceLT, Nat.reduceAdd, Nat.reduceMul, Nat.reduceLeDiff, Nat.le_refl, Int.natCast_zero, Int.toNat_natCast, Int.reduceToNat, *])
    | (refine sCallX_one (c_CloneI _ h2) ?_; try simp -dsimp -implicitDefEqProofs only [go_sem, ↓reduceIte, Nat.reduceEqDiff, Nat.reduceLT, Nat.reduceAdd, Nat.reduceMul, Nat.reduceLeDiff, Nat.le_refl, Int.natCast_zero, Int.toNat_natCast, Int.reduceToNat, *])
  all_goals try (first | omega | rfl | (simp; done))
  refine Later.up [4, 8, 26, 27] [11, 34, 46] [22000] es.length (fun _ => True) (fun i => [(28, eI i), (9, eI (runEv r (es.take i)).2)]) (fun i => [(22000, .row 0 ⟨3, true⟩ true ((runEv r (es.take i)).1.tags.map eTag))]) trivial ?_ rfl (fun i hi _ => ?_) (fun _ => ?_)
  · simp -dsimp -implicitDefEqProofs only [go_sem, ↓reduceIte, Nat.reduceEqDiff, Nat.reduceLT, Nat.reduceAdd, Nat.reduceMul, Nat.reduceLeDiff, Nat.le_refl, Int.natCast_zero, Int.toNat_natCast, Int.reduceToNat]
    simp [runEv]
  · obtain ⟨p1, p2, p3, p4⟩ := runEv_inv r es i (by omega)
    have p5 := runEv_take r es i hi
    have he : isEv r es[i] = true := h5 _ (List.getElem_mem hi)
    generalize hT : runEv r (es.take i) = p at p1 p2 p3 p4 p5
    have hev : isEv ⟨p.1.tags, r.roles⟩ es[i] = true := by rw [isEv_eq _ _ _ p2]; exact he
    have hout : (⟨p.1.tags, r.roles⟩ : RegM) = p.1 := by rw [← p1]
    have ht : (p.1.tags.map eTag).take r.tags.length = p.1.tags.map eTag := by rw [← p2, take_map_len]
    have hg := tag_get hev
    simp only at hg
    have hin := isEv_in he
    simp -dsimp -implicitDefEqProofs only [pick_nil, pick_cons, look_nil, look_cons, dropB_nil, dropB_cons, inD_nil, inD_cons, inE_nil, inE_cons, or_t_l, or_f_l, Nat.reduceBEq, Nat.reduceDiv, Nat.reduceAdd, beq_self_eq_true, Bool.false_eq_true, Bool.or_false, ↓reduceIte, Nat.reduceEqDiff, List.cons_append, List.nil_append]
    rw [p5]
    simp -dsimp -implicitDefEqProofs only [go_sem, ↓reduceIte, Nat.reduceEqDiff, Nat.reduceLT, Nat.reduceAdd, Nat.reduceMul, Nat.reduceLeDiff, Nat.le_refl, Int.natCast_zero, Int.toNat_natCast, Int.reduceToNat, lt_len hi, get_some hi, ht, hT, p2]
    repeat' first
      | (refine Br.intro (fun _ => ?_) (fun _ => ?_) <;> try simp -dsimp -implicitDefEqProofs only [go_sem, ↓reduceIte, Nat.reduceEqDiff, Nat.reduceLT, Nat.reduceAdd, Nat.reduceMul, Nat.reduceLeDiff, Nat.le_refl, Int.natCast_zero, Int.toNat_natCast, Int.reduceToNat, *])
      | (with_reducible refine And.intro ?_ ?_)
      | (refine sCallT_one (c_isPossible ⟨p.1.tags, r.roles⟩ es[i] (by rw [roleOf_eq]; exact roles_in h4 _ he) hev) ?_; try simp -dsimp -implicitDefEqProofs only [go_sem, ↓reduceIte, Nat.reduceEqDiff, Nat.reduceLT, Nat.reduceAdd, Nat.reduceMul, Nat.reduceLeDiff, Nat.le_refl, Int.natCast_zero, Int.toNat_natCast, Int.reduceToNat, *])
      | (refine Later.draw mixed rfl ?_; try simp -dsimp -implicitDefEqProofs only [go_sem, ↓reduceIte, Nat.reduceEqDiff, Nat.reduceLT, Nat.reduceAdd, Nat.reduceMul, Nat.reduceLeDiff, Nat.le_refl, Int.natCast_zero, Int.toNat_natCast, Int.reduceToNat, *])
      | (refine sCallX_one (c_apply _ _) ?_; try simp -dsimp -implicitDefEqProofs only [go_sem, ↓reduceIte, Nat.reduceEqDiff, Nat.reduceLT, Nat.reduceAdd, Nat.reduceMul, Nat.reduceLeDiff, Nat.le_refl, Int.natCast_zero, Int.toNat_natCast, Int.reduceToNat, *])
    all_goals first | omega | (refine ⟨?_, ?_⟩ <;> omega) | rfl | (simp; done) | (simp_all [stepEv, applyEv, List.map_set]; done) | (simp_all [stepEv, applyEv, List.map_set]; omega) | (simp_all [stepEv, applyEv, List.map_set]; split <;> simp_all <;> omega) | trace_state
  · obtain ⟨p1, p2, p3, p4⟩ := runEv_inv r es es.length (by omega)
    rw [List.take_length] at p1 p2 p3 p4
    have ht : ((runEv r es).1.tags.map eTag).take r.tags.length = (runEv r es).1.tags.map eTag := by rw [← p2, take_map_len]
    simp -dsimp -implicitDefEqProofs only [pick_nil, pick_cons, look_nil, look_cons, dropB_nil, dropB_cons, inD_nil, inD_cons, inE_nil, inE_cons, or_t_l, or_f_l, Nat.reduceBEq, Nat.reduceDiv, Nat.reduceAdd, beq_self_eq_true, Bool.false_eq_true, Bool.or_false, ↓reduceIte, Nat.reduceEqDiff, List.cons_append, List.nil_append]
    simp -dsimp -implicitDefEqProofs only [go_sem, ↓reduceIte, Nat.reduceEqDiff, Nat.reduceLT, Nat.reduceAdd, Nat.reduceMul, Nat.reduceLeDiff, Nat.le_refl, Int.natCast_zero, Int.toNat_natCast, Int.reduceToNat, nlt_len, List.take_length, ht]
    repeat' (with_reducible refine And.intro ?_ ?_)
    all_goals first | omega | (refine ⟨?_, ?_⟩ <;> omega) | rfl | (simp; done) | (simp_all [runEvents]; done) | (simp_all [runEvents]; omega) | (simp_all [runEvents]; split <;> simp_all <;> omega) | trace_state
end Go.Vc
/-
  Events run by the reference; one event applied; tags and states counted.
-/
set_option linter.unusedVariables false
set_option linter.unusedSimpArgs false
set_option linter.unnecessarySimpa false
namespace Go.Vc
open Go.Proofs
set_option maxRecDepth 100000
theorem c_sRunEvents (r : RegM) (es : List EvM) (h1 : r.tags.length ≤ 1048576) (h2 : r.roles.length ≤ 1048576) (h3 : es.length ≤ 1048576) : Fn Tryz.prog 31 [eReg r, eEvs es] true (· = .tup [eReg (runEvents r es).1, eI (runEvents r es).2.1, eI (runEvents r es).2.2]) := by
  refine Fn.of_vcN 63 [.cell 4 29, .tmp 5, .tmp 6] Tryz.func31 rfl rfl rfl rfl rfl (of_decide_eq_true rfl) ?_
  simp -dsimp -implicitDefEqProofs only [go_sem, ↓reduceIte, Nat.reduceEqDiff, Nat.reduceLT, Nat.reduceAdd, Nat.reduceMul, Nat.reduceLeDiff, Nat.le_refl, Int.natCast_zero, Int.toNat_natCast, Int.reduceToNat]
  repeat' first
    | (refine Br.intro (fun _ => ?_) (fun _ => ?_) <;> try simp -dsimp -implicitDefEqProofs only [go_sem, ↓reduceIte, Nat.reduceEqDiff, Nat.reduceLT, Nat.reduceAdd, Nat.reduceMul, Nat.reduceLeDiff, Nat.le_refl, Int.natCast_zero, Int.toNat_natCast, Int.reduceToNat, *])
    | (refine sCallT_one (c_sIsRegister _) ?_; try simp -dsimp -implicitDefEqProofs only [go_sem, ↓reduceIte, Nat.reduceEqDiff, Nat.reduceLT, Nat.reduceAdd, Nat.reduceMul, Nat.reduceLeDiff, Nat.le_refl, Int.natCast_zero, Int.toNat_natCast, Int.reduceToNat, *])
  · simp_all [runEvents, evsCode]
  refine Later.up [1, 2, 4] [17, 26] [] es.length (fun i => (es.take i).all (isEv r)) (fun i => [(7, eI i)]) (fun _ => []) (by simp) ?_ rfl (fun i hi hI => ?_) (fun hI => ?_)
  · simp -dsimp -implicitDefEqProofs only [go_sem, ↓reduceIte, Nat.reduceEqDiff, Nat.reduceLT, Nat.reduceAdd, Nat.reduceMul, Nat.reduceLeDiff, Nat.le_refl, Int.natCast_zero, Int.toNat_natCast, Int.reduceToNat]
  · simp -dsimp -implicitDefEqProofs only [pick_nil, pick_cons, look_nil, look_cons, dropB_nil, dropB_cons, inD_nil, inD_cons, inE_nil, inE_cons, or_t_l, or_f_l, Nat.reduceBEq, Nat.reduceDiv, Nat.reduceAdd, beq_self_eq_true, Bool.false_eq_true, Bool.or_false, ↓reduceIte, Nat.reduceEqDiff, List.cons_append, List.nil_append]
    have no : isEv r es[i] = false → runEvents r es = (⟨[], []⟩, 0, 2) := fun h => by
      have : evsCode r es = 2 := by simp_all [evsCode, all_no hi h]
      simp [runEvents, this]
    have yes : isEv r es[i] = true → ((es.take (i + 1)).all (isEv r)) = true := fun h => by rw [all_take _ _ _ hi, hI, h]; rfl
    simp -dsimp -implicitDefEqProofs only [go_sem, ↓reduceIte, Nat.reduceEqDiff, Nat.reduceLT, Nat.reduceAdd, Nat.reduceMul, Nat.reduceLeDiff, Nat.le_refl, Int.natCast_zero, Int.toNat_natCast, Int.reduceToNat, lt_len hi, get_some hi]
    (refine Later.draw mixed rfl ?_; try simp -dsimp -implicitDefEqProofs only [go_sem, ↓reduceIte, Nat.reduceEqDiff, Nat.reduceLT, Nat.reduceAdd, Nat.reduceMul, Nat.reduceLeDiff, Nat.le_refl, Int.natCast_zero, Int.toNat_natCast, Int.reduceToNat, *])
    try simp -dsimp -implicitDefEqProofs only [go_sem, ↓reduceIte, Nat.reduceEqDiff, Nat.reduceLT, Nat.reduceAdd, Nat.reduceMul, Nat.reduceLeDiff, Nat.le_refl, Int.natCast_zero, Int.toNat_natCast, Int.reduceToNat, get_some hi]
    repeat' first
      | (refine Br.intro (fun _ => ?_) (fun _ => ?_) <;> try simp -dsimp -implicitDefEqProofs only [go_sem, ↓reduceIte, Nat.reduceEqDiff, Nat.reduceLT, Nat.reduceAdd, Nat.reduceMul, Nat.reduceLeDiff, Nat.le_refl, Int.natCast_zero, Int.toNat_natCast, Int.reduceToNat, *])
      | (with_reducible refine And.intro ?_ ?_)
      | (refine sCallX_one (c_l30Event _ _ h1 h2) ?_; try simp -dsimp -implicitDefEqProofs only [go_sem, ↓reduceIte, Nat.reduceEqDiff, Nat.reduceLT, Nat.reduceAdd, Nat.reduceMul, Nat.reduceLeDiff, Nat.le_refl, Int.natCast_zero, Int.toNat_natCast, Int.reduceToNat, *])
    all_goals first
      | omega
      | (refine ⟨?_, ?_⟩ <;> omega)
      | rfl
      | (simp; done)
      | (rw [no] <;> clear no yes <;> simp_all; done)
      | (refine yes ?_; clear no yes; simp_all; done)
      | trace_state
  · simp -dsimp -implicitDefEqProofs only [pick_nil, pick_cons, look_nil, look_cons, dropB_nil, dropB_cons, inD_nil, inD_cons, inE_nil, inE_cons, or_t_l, or_f_l, Nat.reduceBEq, Nat.reduceDiv, Nat.reduceAdd, beq_self_eq_true, Bool.false_eq_true, Bool.or_false, ↓reduceIte, Nat.reduceEqDiff, List.cons_append, List.nil_append]
    simp -dsimp -implicitDefEqProofs only [go_sem, ↓reduceIte, Nat.reduceEqDiff, Nat.reduceLT, Nat.reduceAdd, Nat.reduceMul, Nat.reduceLeDiff, Nat.le_refl, Int.natCast_zero, Int.toNat_natCast, Int.reduceToNat, nlt_len]
    rw [List.take_length] at hI
    repeat' (refine Br.intro (fun _ => ?_) (fun _ => ?_) <;> try simp -dsimp -implicitDefEqProofs only [go_sem, ↓reduceIte, Nat.reduceEqDiff, Nat.reduceLT, Nat.reduceAdd, Nat.reduceMul, Nat.reduceLeDiff, Nat.le_refl, Int.natCast_zero, Int.toNat_natCast, Int.reduceToNat, *])
    · have h4 : evsCode r es = 3 := by simp_all [evsCode]; omega
      simp [runEvents, h4]
    have h : evsCode r es = 0 := by simp_all [evsCode]; omega
    obtain ⟨h4, h5, h6⟩ := evsCode_zero h
    (refine Later.draw mixed rfl ?_; try simp -dsimp -implicitDefEqProofs only [go_sem, ↓reduceIte, Nat.reduceEqDiff, Nat.reduceLT, Nat.reduceAdd, Nat.reduceMul, Nat.reduceLeDiff, Nat.le_refl, Int.natCast_zero, Int.toNat_natCast, Int.reduceToNat, *])
    repeat' first
      | (with_reducible refine And.intro ?_ ?_)
      | (refine sCallX_one (c_l01Own _ h2) ?_; try simp -dsimp -implicitDefEqProofs only [go_sem, ↓reduceIte, Nat.reduceEqDiff, Nat.reduceLT, Nat.reduceAdd, Nat.reduceMul, Nat.reduceLeDiff, Nat.le_refl, Int.natCast_zero, Int.toNat_natCast, Int.reduceToNat, *])
    all_goals try (first | omega | rfl | (simp; done))
    refine Later.upR [1, 4, 8] [43, 52, 58] [8, 33, 40000, 59000, 59001] es.length (fun _ => True) (fun i => [(10, eI i), (9, eI (runEv r (es.take i)).2)])
      (fun i => [(8, .box 0 [.ref 33 1 0 r.tags.length, .ref 40000 0 0 r.roles.length]), (33, .row 1 ⟨3, true⟩ true ((runEv r (es.take i)).1.tags.map eTag)), (40000, .row 0 ⟨1, false⟩ true (r.roles.map eI))]) trivial (.here ?_) rfl (fun i hi _ => ?_) (fun _ => ?_)
    · simp -dsimp -implicitDefEqProofs only [go_sem, ↓reduceIte, Nat.reduceEqDiff, Nat.reduceLT, Nat.reduceAdd, Nat.reduceMul, Nat.reduceLeDiff, Nat.le_refl, Int.natCast_zero, Int.toNat_natCast, Int.reduceToNat]
      simp [runEv]
    · obtain ⟨p1, p2, p3, p4⟩ := runEv_inv r es i (by omega)
      have p5 := runEv_take r es i hi
      have hgi := get_some hi
      have he : isEv r es[i] = true := h5 _ (List.getElem_mem hi)
      generalize hT : runEv r (es.take i) = p at p1 p2 p3 p4 p5
      have hev : isEv ⟨p.1.tags, r.roles⟩ es[i] = true := by rw [isEv_eq _ _ _ p2]; exact he
      have hout : (⟨p.1.tags, r.roles⟩ : RegM) = p.1 := by rw [← p1]
      have ht : (p.1.tags.map eTag).take r.tags.length = p.1.tags.map eTag := by rw [← p2, take_map_len]
      simp -dsimp -implicitDefEqProofs only [pick_nil, pick_cons, look_nil, look_cons, dropB_nil, dropB_cons, inD_nil, inD_cons, inE_nil, inE_cons, or_t_l, or_f_l, Nat.reduceBEq, Nat.reduceDiv, Nat.reduceAdd, beq_self_eq_true, Bool.false_eq_true, Bool.or_false, ↓reduceIte, Nat.reduceEqDiff, List.cons_append, List.nil_append]
      rw [p5]
      simp -dsimp -implicitDefEqProofs only [go_sem, ↓reduceIte, Nat.reduceEqDiff, Nat.reduceLT, Nat.reduceAdd, Nat.reduceMul, Nat.reduceLeDiff, Nat.le_refl, Int.natCast_zero, Int.toNat_natCast, Int.reduceToNat, lt_len hi, get_some hi, ht, hT, p2]
      (refine Later.draw mixed rfl ?_; try simp -dsimp -implicitDefEqProofs only [go_sem, ↓reduceIte, Nat.reduceEqDiff, Nat.reduceLT, Nat.reduceAdd, Nat.reduceMul, Nat.reduceLeDiff, Nat.le_refl, Int.natCast_zero, Int.toNat_natCast, Int.reduceToNat, *])
      try simp -dsimp -implicitDefEqProofs only [go_sem, ↓reduceIte, Nat.reduceEqDiff, Nat.reduceLT, Nat.reduceAdd, Nat.reduceMul, Nat.reduceLeDiff, Nat.le_refl, Int.natCast_zero, Int.toNat_natCast, Int.reduceToNat, get_some hi, ht]
      repeat' (with_reducible refine And.intro ?_ ?_)
      all_goals try omega
      refine sCallX_one (c_l30Can ⟨p.1.tags, r.roles⟩ es[i] hev) ?_
      simp -dsimp -implicitDefEqProofs only [go_sem, ↓reduceIte, Nat.reduceEqDiff, Nat.reduceLT, Nat.reduceAdd, Nat.reduceMul, Nat.reduceLeDiff, Nat.le_refl, Int.natCast_zero, Int.toNat_natCast, Int.reduceToNat]
      repeat' first
        | (refine Br.intro (fun _ => ?_) (fun _ => ?_) <;> try simp -dsimp -implicitDefEqProofs only [go_sem, ↓reduceIte, Nat.reduceEqDiff, Nat.reduceLT, Nat.reduceAdd, Nat.reduceMul, Nat.reduceLeDiff, Nat.le_refl, Int.natCast_zero, Int.toNat_natCast, Int.reduceToNat, *])
        | (with_reducible refine And.intro ?_ ?_)
        | (refine Later.draw mixed rfl ?_; try simp -dsimp -implicitDefEqProofs only [go_sem, ↓reduceIte, Nat.reduceEqDiff, Nat.reduceLT, Nat.reduceAdd, Nat.reduceMul, Nat.reduceLeDiff, Nat.le_refl, Int.natCast_zero, Int.toNat_natCast, Int.reduceToNat, *])
        | (refine sCallX_one (c_l30Apply ⟨p.1.tags, r.roles⟩ es[i] hev (by simpa [p2] using h1) h2) ?_; try simp -dsimp -implicitDefEqProofs only [go_sem, ↓reduceIte, Nat.reduceEqDiff, Nat.reduceLT, Nat.reduceAdd, Nat.reduceMul, Nat.reduceLeDiff, Nat.le_refl, Int.natCast_zero, Int.toNat_natCast, Int.reduceToNat, *])
      all_goals first
        | omega
        | rfl
        | (refine ⟨?_, ?_⟩ <;> omega)
        | (simp; done)
        | (refine .here ?_; simp -dsimp -implicitDefEqProofs only [go_sem, ↓reduceIte, Nat.reduceEqDiff, Nat.reduceLT, Nat.reduceAdd, Nat.reduceMul, Nat.reduceLeDiff, Nat.le_refl, Int.natCast_zero, Int.toNat_natCast, Int.reduceToNat]; simp_all [stepEv]; done)
        | (refine .two 59000 33 59001 40000 (by decide) (by decide) (by decide) (by decide) ?_; simp -dsimp -implicitDefEqProofs only [go_sem, ↓reduceIte, Nat.reduceEqDiff, Nat.reduceLT, Nat.reduceAdd, Nat.reduceMul, Nat.reduceLeDiff, Nat.le_refl, Int.natCast_zero, Int.toNat_natCast, Int.reduceToNat]; simp_all [stepEv, applyEv]; done)
        | trace_state
    · obtain ⟨p1, p2, p3, p4⟩ := runEv_inv r es es.length (by omega)
      rw [List.take_length] at p1 p2 p3 p4
      have ht : ((runEv r es).1.tags.map eTag).take r.tags.length = (runEv r es).1.tags.map eTag := by rw [← p2, take_map_len]
      simp -dsimp -implicitDefEqProofs only [pick_nil, pick_cons, look_nil, look_cons, dropB_nil, dropB_cons, inD_nil, inD_cons, inE_nil, inE_cons, or_t_l, or_f_l, Nat.reduceBEq, Nat.reduceDiv, Nat.reduceAdd, beq_self_eq_true, Bool.false_eq_true, Bool.or_false, ↓reduceIte, Nat.reduceEqDiff, List.cons_append, List.nil_append]
      simp -dsimp -implicitDefEqProofs only [go_sem, ↓reduceIte, Nat.reduceEqDiff, Nat.reduceLT, Nat.reduceAdd, Nat.reduceMul, Nat.reduceLeDiff, Nat.le_refl, Int.natCast_zero, Int.toNat_natCast, Int.reduceToNat, nlt_len, List.take_length, ht]
      repeat' (with_reducible refine And.intro ?_ ?_)
      all_goals first | omega | (refine ⟨?_, ?_⟩ <;> omega) | rfl | (simp; done) | (simp_all [runEvents]; done) | (simp_all [runEvents]; omega) | (simp_all [runEvents]; split <;> simp_all <;> omega) | trace_state
def applyEvent (r : RegM) (e : EvM) : RegM × Int := if evCode r e = 0 then (if canEv r e then (applyEv r e, 0) else (⟨[], []⟩, 5)) else (⟨[], []⟩, evCode r e)
theorem c_sApplyEvent (r : RegM) (e : EvM) (h1 : r.tags.length ≤ 1048576) (h2 : r.roles.length ≤ 1048576) : Fn Tryz.prog 92 [eReg r, eEv e] true (· = .tup [eReg (applyEvent r e).1, eI (applyEvent r e).2]) := by
  refine Fn.of_vcN 25 [.cell 4 29, .tmp 5] Tryz.func92 rfl rfl rfl rfl rfl (of_decide_eq_true rfl) ?_
  simp -dsimp -implicitDefEqProofs only [go_sem, ↓reduceIte, Nat.reduceEqDiff, Nat.reduceLT, Nat.reduceAdd, Nat.reduceMul, Nat.reduceLeDiff, Nat.le_refl, Int.natCast_zero, Int.toNat_natCast, Int.reduceToNat]
  repeat' first
    | (with_reducible refine And.intro ?_ ?_)
    | (refine sCallT_one (c_l30Code _ _ h1 h2) ?_; try simp -dsimp -implicitDefEqProofs only [go_sem, ↓reduceIte, Nat.reduceEqDiff, Nat.reduceLT, Nat.reduceAdd, Nat.reduceMul, Nat.reduceLeDiff, Nat.le_refl, Int.natCast_zero, Int.toNat_natCast, Int.reduceToNat, *])
  by_cases h : evCode r e = 0
  · obtain ⟨h3, h4⟩ := evCode_zero h
    have h5 : (if isReg r = true then if isEv r e = true then (0 : Int) else 2 else 1) = 0 := h
    rw [h5]
    simp -dsimp -implicitDefEqProofs only [go_sem, ↓reduceIte, Nat.reduceEqDiff, Nat.reduceLT, Nat.reduceAdd, Nat.reduceMul, Nat.reduceLeDiff, Nat.le_refl, Int.natCast_zero, Int.toNat_natCast, Int.reduceToNat]
    refine sCallT_one (c_l30Can _ _ h4) ?_
    simp -dsimp -implicitDefEqProofs only [go_sem, ↓reduceIte, Nat.reduceEqDiff, Nat.reduceLT, Nat.reduceAdd, Nat.reduceMul, Nat.reduceLeDiff, Nat.le_refl, Int.natCast_zero, Int.toNat_natCast, Int.reduceToNat]
    repeat' first
      | (refine Br.intro (fun _ => ?_) (fun _ => ?_) <;> try simp -dsimp -implicitDefEqProofs only [go_sem, ↓reduceIte, Nat.reduceEqDiff, Nat.reduceLT, Nat.reduceAdd, Nat.reduceMul, Nat.reduceLeDiff, Nat.le_refl, Int.natCast_zero, Int.toNat_natCast, Int.reduceToNat, *])
      | (with_reducible refine And.intro ?_ ?_)
      | (refine sCallT_one (c_l30Apply _ _ h4 h1 h2) ?_; try simp -dsimp -implicitDefEqProofs only [go_sem, ↓reduceIte, Nat.reduceEqDiff, Nat.reduceLT, Nat.reduceAdd, Nat.reduceMul, Nat.reduceLeDiff, Nat.le_refl, Int.natCast_zero, Int.toNat_natCast, Int.reduceToNat, *])
    all_goals first | omega | (refine ⟨?_, ?_⟩ <;> omega) | rfl | (simp; done) | (simp_all [applyEvent]; done) | (simp_all [applyEvent]; omega) | (simp_all [applyEvent]; split <;> simp_all <;> omega) | trace_state
  · have h5 : (if isReg r = true then if isEv r e = true then (0 : Int) else 2 else 1) = evCode r e := rfl
    rw [h5]
    have h6 : (evCode r e == 0) = false := by simpa using h
    have h7 : (evCode r e != 0) = true := by simpa using h
    simp -dsimp -implicitDefEqProofs only [go_sem, ↓reduceIte, Nat.reduceEqDiff, Nat.reduceLT, Nat.reduceAdd, Nat.reduceMul, Nat.reduceLeDiff, Nat.le_refl, Int.natCast_zero, Int.toNat_natCast, Int.reduceToNat, h6, h7]
    simp [applyEvent, h]
theorem runEvents_one (r : RegM) (e : EvM) : runEvents r [e] = if evCode r e = 0 then (if canEv r e then (applyEv r e, 0, 0) else (r, 1, 0)) else (⟨[], []⟩, 0, evCode r e) := by
  rw [runEvents, evsCode_one]
  simp only [runEv, List.foldl_cons, List.foldl_nil, stepEv]
  split
  · split <;> simp_all
  · rfl
end Go.Vc
