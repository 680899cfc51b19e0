/-
  Events, as values; when one is as described.
-/
import Derived.Test.YtnmaeefcjdbpcaaDoorNum
set_option linter.unusedVariables false
set_option linter.unusedSimpArgs false
set_option linter.unnecessarySimpa false
namespace Go.Vc
open Go.Proofs
set_option maxRecDepth 100000
structure EvM where
  kind : Int
  tag : Int
  person : Int
  who : Int
  deriving DecidableEq
abbrev eEv (e : EvM) : AV := .agg [eI e.kind, eI e.tag, eI e.person, eI e.who]
abbrev eEvs (es : List EvM) : AV := .arr ⟨4, true⟩ (es.map eEv)
def isEvent (e : EvM) (tags persons : Int) : Bool := isIn e.kind 0 4 && isIn e.tag 0 (tags - 1) && isIn e.who 0 (persons - 1) && (if e.kind = 0 then isIn e.person 0 (persons - 1) else e.person == -1)
theorem c_isEvent (e : EvM) (a b : Int) (ha : 0 ≤ a ∧ a ≤ 1048576) (hb : 0 ≤ b ∧ b ≤ 1048576) : Fn Tryd.prog 97 [eEv e, eI a, eI b] true (· = eB (isEvent e a b)) := by
  refine Fn.of_vcN 38 [.tmp 6] Tryd.func97 rfl rfl rfl rfl rfl (of_decide_eq_true rfl) ?_
  simp -dsimp -implicitDefEqProofs only [go_sem, ↓reduceIte, Nat.reduceEqDiff, Nat.reduceLT, Nat.reduceAdd, Nat.reduceMul, Nat.reduceLeDiff, Nat.le_refl, Int.natCast_zero, Int.toNat_natCast, Int.reduceToNat]
  repeat' first
    | (refine Br.intro (fun _ => ?_) (fun _ => ?_) <;> try simp -dsimp -implicitDefEqProofs only [go_sem, ↓reduceIte, Nat.reduceEqDiff, Nat.reduceLT, Nat.reduceAdd, Nat.reduceMul, Nat.reduceLeDiff, Nat.le_refl, Int.natCast_zero, Int.toNat_natCast, Int.reduceToNat, *])
    | (with_reducible refine And.intro ?_ ?_)
    | (refine sCallT_one (c_within _ _ _) ?_; try simp -dsimp -implicitDefEqProofs only [go_sem, ↓reduceIte, Nat.reduceEqDiff, Nat.reduceLT, Nat.reduceAdd, Nat.reduceMul, Nat.reduceLeDiff, Nat.le_refl, Int.natCast_zero, Int.toNat_natCast, Int.reduceToNat, *])
  all_goals first | omega | (refine ⟨?_, ?_⟩ <;> omega) | rfl | (simp; done) | (simp_all [isEvent]; done) | (simp_all [isEvent]; omega) | (simp_all [isEvent]; split <;> simp_all <;> omega) | trace_state
end Go.Vc
