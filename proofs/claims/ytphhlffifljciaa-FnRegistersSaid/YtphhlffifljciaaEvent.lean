/-
  Events of a register: when one is possible, and what it does.
-/
import Derived.Test.YtphhlffifljciaaReg2
set_option linter.unusedVariables false
set_option linter.unusedSimpArgs false
set_option linter.unnecessarySimpa false
namespace Go.Vc
open Go.Proofs
set_option maxRecDepth 100000
structure EvM where
  kind : Int
  tag : Int
  person : Int
  who : Int
  deriving DecidableEq
abbrev eEv (e : EvM) : AV := .agg [eI e.kind, eI e.tag, eI e.person, eI e.who]
abbrev eEvs (es : List EvM) : AV := .arr ⟨4, true⟩ (es.map eEv)
def isEvent (e : EvM) (tags persons : Int) : Bool := isIn e.kind 0 4 && isIn e.tag 0 (tags - 1) && isIn e.who 0 (persons - 1) && (if e.kind = 0 then isIn e.person 0 (persons - 1) else e.person == -1)
def isEv (r : RegM) (e : EvM) : Bool := isEvent e r.tags.length r.roles.length
def roleOf (r : RegM) (e : EvM) : Int := r.roles.getD e.who.toNat 0
def tagOf (r : RegM) (e : EvM) : TagM := r.tags.getD e.tag.toNat ⟨0, 0, 0⟩
def before (k : Int) : Int := if k = 1 ∨ k = 2 then 1 else if k = 3 then 2 else 0
def canEv (r : RegM) (e : EvM) : Bool := decide (roleOf r e ≥ (if e.kind ≥ 3 then 2 else 1)) && (tagOf r e).state == before e.kind
def applyTag (x : TagM) (e : EvM) : TagM := if e.kind = 0 then ⟨x.row, 1, e.person⟩ else if e.kind = 2 then ⟨x.row, 2, x.person⟩ else if e.kind = 4 then ⟨x.row, 3, -1⟩ else ⟨x.row, 0, -1⟩
def applyEv (r : RegM) (e : EvM) : RegM := ⟨r.tags.set e.tag.toNat (applyTag (tagOf r e) e), r.roles⟩
theorem isEv_in {r : RegM} {e : EvM} (h : isEv r e = true) : (0 ≤ e.kind ∧ e.kind ≤ 4) ∧ (0 ≤ e.tag ∧ e.tag < r.tags.length) ∧ (0 ≤ e.who ∧ e.who < r.roles.length) := by
  simp [isEv, isEvent, isIn] at h; omega
theorem role_get {r : RegM} {e : EvM} (h : isEv r e = true) : r.roles[e.who.toNat]? = some (roleOf r e) := by
  have := isEv_in h
  have hl : e.who.toNat < r.roles.length := by omega
  rw [roleOf, List.getD_eq_getElem?_getD, List.getElem?_eq_getElem hl]; rfl
theorem tag_get {r : RegM} {e : EvM} (h : isEv r e = true) : r.tags[e.tag.toNat]? = some (tagOf r e) := by
  have := isEv_in h
  have hl : e.tag.toNat < r.tags.length := by omega
  rw [tagOf, List.getD_eq_getElem?_getD, List.getElem?_eq_getElem hl]; rfl
theorem c_l30Person (r : RegM) (p : Int) (h : r.roles.length ≤ 1048576) : Fn Try.prog 78 [eReg r, eI p] true (· = eB (isIn p 0 (r.roles.length - 1))) := by
  refine Fn.of_vcN 11 [.tmp 4] Try.func78 rfl rfl rfl rfl rfl (of_decide_eq_true rfl) ?_
  simp -dsimp -implicitDefEqProofs only [go_sem, ↓reduceIte, Nat.reduceEqDiff, Nat.reduceLT, Nat.reduceAdd, Nat.reduceMul, Nat.reduceLeDiff, Nat.le_refl, Int.natCast_zero, Int.toNat_natCast, Int.reduceToNat]
  repeat' first
    | (with_reducible refine And.intro ?_ ?_)
    | (refine sCallT_one (c_l01In _ _ _) ?_; try simp -dsimp -implicitDefEqProofs only [go_sem, ↓reduceIte, Nat.reduceEqDiff, Nat.reduceLT, Nat.reduceAdd, Nat.reduceMul, Nat.reduceLeDiff, Nat.le_refl, Int.natCast_zero, Int.toNat_natCast, Int.reduceToNat, *])
  all_goals first | omega | (refine ⟨?_, ?_⟩ <;> omega) | rfl | (simp; done) | (simp_all []; done) | (simp_all []; omega) | (simp_all []; split <;> simp_all <;> omega) | trace_state
theorem c_l30Event (r : RegM) (e : EvM) (h1 : r.tags.length ≤ 1048576) (h2 : r.roles.length ≤ 1048576) : Fn Try.prog 62 [eReg r, eEv e] true (· = eB (isEv r e)) := by
  refine Fn.of_vcN 36 [.tmp 4] Try.func62 rfl rfl rfl rfl rfl (of_decide_eq_true rfl) ?_
  simp -dsimp -implicitDefEqProofs only [go_sem, ↓reduceIte, Nat.reduceEqDiff, Nat.reduceLT, Nat.reduceAdd, Nat.reduceMul, Nat.reduceLeDiff, Nat.le_refl, Int.natCast_zero, Int.toNat_natCast, Int.reduceToNat]
  repeat' first
    | (refine Br.intro (fun _ => ?_) (fun _ => ?_) <;> try simp -dsimp -implicitDefEqProofs only [go_sem, ↓reduceIte, Nat.reduceEqDiff, Nat.reduceLT, Nat.reduceAdd, Nat.reduceMul, Nat.reduceLeDiff, Nat.le_refl, Int.natCast_zero, Int.toNat_natCast, Int.reduceToNat, *])
    | (with_reducible refine And.intro ?_ ?_)
    | (refine sCallT_one (c_l01In _ _ _) ?_; try simp -dsimp -implicitDefEqProofs only [go_sem, ↓reduceIte, Nat.reduceEqDiff, Nat.reduceLT, Nat.reduceAdd, Nat.reduceMul, Nat.reduceLeDiff, Nat.le_refl, Int.natCast_zero, Int.toNat_natCast, Int.reduceToNat, *])
    | (refine sCallT_one (c_l30Person _ _ h2) ?_; try simp -dsimp -implicitDefEqProofs only [go_sem, ↓reduceIte, Nat.reduceEqDiff, Nat.reduceLT, Nat.reduceAdd, Nat.reduceMul, Nat.reduceLeDiff, Nat.le_refl, Int.natCast_zero, Int.toNat_natCast, Int.reduceToNat, *])
  all_goals first | omega | (refine ⟨?_, ?_⟩ <;> omega) | rfl | (simp; done) | (simp_all [isEv, isEvent]; done) | (simp_all [isEv, isEvent]; omega) | (simp_all [isEv, isEvent]; split <;> simp_all <;> omega) | trace_state
theorem c_l30Role (k : Int) : Fn Try.prog 73 [eI k] true (· = eI (if k ≥ 3 then 2 else 1)) := by
  refine Fn.of_vcN 5 [.tmp 2] Try.func73 rfl rfl rfl rfl rfl (of_decide_eq_true rfl) ?_
  simp -dsimp -implicitDefEqProofs only [go_sem, ↓reduceIte, Nat.reduceEqDiff, Nat.reduceLT, Nat.reduceAdd, Nat.reduceMul, Nat.reduceLeDiff, Nat.le_refl, Int.natCast_zero, Int.toNat_natCast, Int.reduceToNat]
  repeat' (refine Br.intro (fun _ => ?_) (fun _ => ?_) <;> try simp -dsimp -implicitDefEqProofs only [go_sem, ↓reduceIte, Nat.reduceEqDiff, Nat.reduceLT, Nat.reduceAdd, Nat.reduceMul, Nat.reduceLeDiff, Nat.le_refl, Int.natCast_zero, Int.toNat_natCast, Int.reduceToNat, *])
  all_goals first | omega | (refine ⟨?_, ?_⟩ <;> omega) | rfl | (simp; done) | (simp_all []; done) | (simp_all []; omega) | (simp_all []; split <;> simp_all <;> omega) | trace_state
theorem c_l30Before (k : Int) (hk : 0 ≤ k ∧ k ≤ 4) : Fn Try.prog 74 [eI k] true (· = eI (before k)) := by
  refine Fn.of_vcN 7 [.tmp 2] Try.func74 rfl rfl rfl rfl rfl (of_decide_eq_true rfl) ?_
  have h : k = 0 ∨ k = 1 ∨ k = 2 ∨ k = 3 ∨ k = 4 := by omega
  rcases h with rfl | rfl | rfl | rfl | rfl
  all_goals
    simp -dsimp -implicitDefEqProofs only [go_sem, ↓reduceIte, Nat.reduceEqDiff, Nat.reduceLT, Nat.reduceAdd, Nat.reduceMul, Nat.reduceLeDiff, Nat.le_refl, Int.natCast_zero, Int.toNat_natCast, Int.reduceToNat]
    simp [before]
theorem c_l30Can (r : RegM) (e : EvM) (h : isEv r e = true) : Fn Try.prog 46 [eReg r, eEv e] true (· = eB (canEv r e)) := by
  refine Fn.of_vcN 28 [.tmp 4] Try.func46 rfl rfl rfl rfl rfl (of_decide_eq_true rfl) ?_
  have h1 := isEv_in h
  have h2 := role_get h
  have h3 := tag_get h
  simp -dsimp -implicitDefEqProofs only [go_sem, ↓reduceIte, Nat.reduceEqDiff, Nat.reduceLT, Nat.reduceAdd, Nat.reduceMul, Nat.reduceLeDiff, Nat.le_refl, Int.natCast_zero, Int.toNat_natCast, Int.reduceToNat]
  (refine Later.draw mixed rfl ?_; try simp -dsimp -implicitDefEqProofs only [go_sem, ↓reduceIte, Nat.reduceEqDiff, Nat.reduceLT, Nat.reduceAdd, Nat.reduceMul, Nat.reduceLeDiff, Nat.le_refl, Int.natCast_zero, Int.toNat_natCast, Int.reduceToNat, *])
  repeat' first
    | (refine Br.intro (fun _ => ?_) (fun _ => ?_) <;> try simp -dsimp -implicitDefEqProofs only [go_sem, ↓reduceIte, Nat.reduceEqDiff, Nat.reduceLT, Nat.reduceAdd, Nat.reduceMul, Nat.reduceLeDiff, Nat.le_refl, Int.natCast_zero, Int.toNat_natCast, Int.reduceToNat, *])
    | (with_reducible refine And.intro ?_ ?_)
    | (refine sCallX_one (c_l30Role _) ?_; try simp -dsimp -implicitDefEqProofs only [go_sem, ↓reduceIte, Nat.reduceEqDiff, Nat.reduceLT, Nat.reduceAdd, Nat.reduceMul, Nat.reduceLeDiff, Nat.le_refl, Int.natCast_zero, Int.toNat_natCast, Int.reduceToNat, *])
    | (refine sCallX_one (c_l30Before _ (by omega)) ?_; try simp -dsimp -implicitDefEqProofs only [go_sem, ↓reduceIte, Nat.reduceEqDiff, Nat.reduceLT, Nat.reduceAdd, Nat.reduceMul, Nat.reduceLeDiff, Nat.le_refl, Int.natCast_zero, Int.toNat_natCast, Int.reduceToNat, *])
  all_goals first | omega | (refine ⟨?_, ?_⟩ <;> omega) | rfl | (simp; done) | (simp_all [canEv]; done) | (simp_all [canEv]; omega) | (simp_all [canEv]; split <;> simp_all <;> omega) | trace_state
theorem c_l30Code (r : RegM) (e : EvM) (h1 : r.tags.length ≤ 1048576) (h2 : r.roles.length ≤ 1048576) : Fn Try.prog 45 [eReg r, eEv e] true (· = eI (if isReg r then (if isEv r e then 0 else 2) else 1)) := by
  refine Fn.of_vcN 12 [.tmp 4] Try.func45 rfl rfl rfl rfl rfl (of_decide_eq_true rfl) ?_
  simp -dsimp -implicitDefEqProofs only [go_sem, ↓reduceIte, Nat.reduceEqDiff, Nat.reduceLT, Nat.reduceAdd, Nat.reduceMul, Nat.reduceLeDiff, Nat.le_refl, Int.natCast_zero, Int.toNat_natCast, Int.reduceToNat]
  repeat' first
    | (refine Br.intro (fun _ => ?_) (fun _ => ?_) <;> try simp -dsimp -implicitDefEqProofs only [go_sem, ↓reduceIte, Nat.reduceEqDiff, Nat.reduceLT, Nat.reduceAdd, Nat.reduceMul, Nat.reduceLeDiff, Nat.le_refl, Int.natCast_zero, Int.toNat_natCast, Int.reduceToNat, *])
    | (with_reducible refine And.intro ?_ ?_)
    | (refine sCallT_one (c_sIsRegister _) ?_; try simp -dsimp -implicitDefEqProofs only [go_sem, ↓reduceIte, Nat.reduceEqDiff, Nat.reduceLT, Nat.reduceAdd, Nat.reduceMul, Nat.reduceLeDiff, Nat.le_refl, Int.natCast_zero, Int.toNat_natCast, Int.reduceToNat, *])
    | (refine sCallT_one (c_l30Event _ _ h1 h2) ?_; try simp -dsimp -implicitDefEqProofs only [go_sem, ↓reduceIte, Nat.reduceEqDiff, Nat.reduceLT, Nat.reduceAdd, Nat.reduceMul, Nat.reduceLeDiff, Nat.le_refl, Int.natCast_zero, Int.toNat_natCast, Int.reduceToNat, *])
  all_goals first | omega | (refine ⟨?_, ?_⟩ <;> omega) | rfl | (simp; done) | (simp_all []; done) | (simp_all []; omega) | (simp_all []; split <;> simp_all <;> omega) | trace_state
theorem c_l30Apply (r : RegM) (e : EvM) (h : isEv r e = true) (h1 : r.tags.length ≤ 1048576) (h2 : r.roles.length ≤ 1048576) : Fn Try.prog 47 [eReg r, eEv e] true (· = eReg (applyEv r e)) := by
  refine Fn.of_vcN 50 [.cell 4 40] Try.func47 rfl rfl rfl rfl rfl (of_decide_eq_true rfl) ?_
  have h3 := isEv_in h
  have h4 := tag_get h
  simp -dsimp -implicitDefEqProofs only [go_sem, ↓reduceIte, Nat.reduceEqDiff, Nat.reduceLT, Nat.reduceAdd, Nat.reduceMul, Nat.reduceLeDiff, Nat.le_refl, Int.natCast_zero, Int.toNat_natCast, Int.reduceToNat, h4]
  repeat' first
    | (refine Br.intro (fun _ => ?_) (fun _ => ?_) <;> try simp -dsimp -implicitDefEqProofs only [go_sem, ↓reduceIte, Nat.reduceEqDiff, Nat.reduceLT, Nat.reduceAdd, Nat.reduceMul, Nat.reduceLeDiff, Nat.le_refl, Int.natCast_zero, Int.toNat_natCast, Int.reduceToNat, *])
    | (with_reducible refine And.intro ?_ ?_)
    | (refine sCallT_one (c_l01Own _ h2) ?_; try simp -dsimp -implicitDefEqProofs only [go_sem, ↓reduceIte, Nat.reduceEqDiff, Nat.reduceLT, Nat.reduceAdd, Nat.reduceMul, Nat.reduceLeDiff, Nat.le_refl, Int.natCast_zero, Int.toNat_natCast, Int.reduceToNat, *])
  all_goals first | omega | (refine ⟨?_, ?_⟩ <;> omega) | rfl | (simp; done) | (simp_all [applyEv, applyTag, List.map_set]; done) | (simp_all [applyEv, applyTag, List.map_set]; omega) | (simp_all [applyEv, applyTag, List.map_set]; split <;> simp_all <;> omega) | trace_state
theorem c_isEvent (e : EvM) (a b : Int) (ha : 0 ≤ a ∧ a ≤ 1048576) (hb : 0 ≤ b ∧ b ≤ 1048576) : Fn Try.prog 75 [eEv e, eI a, eI b] true (· = eB (isEvent e a b)) := by
  refine Fn.of_vcN 38 [.tmp 6] Try.func75 rfl rfl rfl rfl rfl (of_decide_eq_true rfl) ?_
  simp -dsimp -implicitDefEqProofs only [go_sem, ↓reduceIte, Nat.reduceEqDiff, Nat.reduceLT, Nat.reduceAdd, Nat.reduceMul, Nat.reduceLeDiff, Nat.le_refl, Int.natCast_zero, Int.toNat_natCast, Int.reduceToNat]
  repeat' first
    | (refine Br.intro (fun _ => ?_) (fun _ => ?_) <;> try simp -dsimp -implicitDefEqProofs only [go_sem, ↓reduceIte, Nat.reduceEqDiff, Nat.reduceLT, Nat.reduceAdd, Nat.reduceMul, Nat.reduceLeDiff, Nat.le_refl, Int.natCast_zero, Int.toNat_natCast, Int.reduceToNat, *])
    | (with_reducible refine And.intro ?_ ?_)
    | (refine sCallT_one (c_within _ _ _) ?_; try simp -dsimp -implicitDefEqProofs only [go_sem, ↓reduceIte, Nat.reduceEqDiff, Nat.reduceLT, Nat.reduceAdd, Nat.reduceMul, Nat.reduceLeDiff, Nat.le_refl, Int.natCast_zero, Int.toNat_natCast, Int.reduceToNat, *])
  all_goals first | omega | (refine ⟨?_, ?_⟩ <;> omega) | rfl | (simp; done) | (simp_all [isEvent]; done) | (simp_all [isEvent]; omega) | (simp_all [isEvent]; split <;> simp_all <;> omega) | trace_state
theorem c_apply (x : TagM) (e : EvM) : Fn Try.prog 61 [eTag x, eEv e] true (· = eTag (applyTag x e)) := by
  refine Fn.of_vcN 29 [.cell 4 55] Try.func61 rfl rfl rfl rfl rfl (of_decide_eq_true rfl) ?_
  simp -dsimp -implicitDefEqProofs only [go_sem, ↓reduceIte, Nat.reduceEqDiff, Nat.reduceLT, Nat.reduceAdd, Nat.reduceMul, Nat.reduceLeDiff, Nat.le_refl, Int.natCast_zero, Int.toNat_natCast, Int.reduceToNat]
  repeat' first
    | (refine Br.intro (fun _ => ?_) (fun _ => ?_) <;> try simp -dsimp -implicitDefEqProofs only [go_sem, ↓reduceIte, Nat.reduceEqDiff, Nat.reduceLT, Nat.reduceAdd, Nat.reduceMul, Nat.reduceLeDiff, Nat.le_refl, Int.natCast_zero, Int.toNat_natCast, Int.reduceToNat, *])
    | (with_reducible refine And.intro ?_ ?_)
  all_goals first | omega | (refine ⟨?_, ?_⟩ <;> omega) | rfl | (simp; done) | (simp_all [applyTag]; done) | (simp_all [applyTag]; omega) | (simp_all [applyTag]; split <;> simp_all <;> omega) | trace_state
theorem roles_in {r : RegM} (h : isReg r = true) (e : EvM) (he : isEv r e = true) : 0 ≤ roleOf r e ∧ roleOf r e ≤ 2 := by
  have h1 := role_get he
  simp only [isReg, Bool.and_eq_true, List.all_eq_true] at h
  have := h.1.2 _ (List.mem_of_getElem? h1)
  simpa [isIn] using this
theorem c_isPossible (r : RegM) (e : EvM) (h4 : 0 ≤ roleOf r e ∧ roleOf r e ≤ 2) (h : isEv r e = true) : Fn Try.prog 49 [eReg r, eEv e] true (· = eB (canEv r e)) := by
  refine Fn.of_vcN 53 [.tmp 4] Try.func49 rfl rfl rfl rfl rfl (of_decide_eq_true rfl) ?_
  have h1 := isEv_in h
  have h2 := role_get h
  have h3 := tag_get h
  simp -dsimp -implicitDefEqProofs only [go_sem, ↓reduceIte, Nat.reduceEqDiff, Nat.reduceLT, Nat.reduceAdd, Nat.reduceMul, Nat.reduceLeDiff, Nat.le_refl, Int.natCast_zero, Int.toNat_natCast, Int.reduceToNat, h2, h3]
  repeat' first
    | (refine Br.intro (fun _ => ?_) (fun _ => ?_) <;> try simp -dsimp -implicitDefEqProofs only [go_sem, ↓reduceIte, Nat.reduceEqDiff, Nat.reduceLT, Nat.reduceAdd, Nat.reduceMul, Nat.reduceLeDiff, Nat.le_refl, Int.natCast_zero, Int.toNat_natCast, Int.reduceToNat, *])
    | (with_reducible refine And.intro ?_ ?_)
  all_goals first | omega | (refine ⟨?_, ?_⟩ <;> omega) | rfl | (simp; done) | (simp_all [canEv, before]; done) | (simp_all [canEv, before]; omega) | (simp_all [canEv, before]; split <;> simp_all <;> omega) | trace_state
end Go.Vc
