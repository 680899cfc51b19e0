/-
  Contracts: picking from a list by the source; a source from a code.
-/
import Derived.Test.YtnmaeefcjdbpcaaDoorSrc
set_option linter.unusedVariables false
set_option linter.unusedSimpArgs false
set_option linter.unnecessarySimpa false
namespace Go.Vc
open Go.Proofs
set_option maxRecDepth 100000
def pk (bs : List UInt8) (xs : List Int) (s : Src) : Int × Src := (xs.getD (nx bs xs.length s).1.toNat 0, (nx bs xs.length s).2)
theorem pk_ok (bs : List UInt8) (xs : List Int) {s : Src} (h : SrcOk s) : SrcOk (pk bs xs s).2 := (nx_ok bs xs.length h).2.2.2
theorem pk_mem (bs : List UInt8) {xs : List Int} {s : Src} (h : SrcOk s) (h0 : xs ≠ []) : (pk bs xs s).1 ∈ xs := by
  obtain ⟨h1, h2, h3, _⟩ := nx_ok bs xs.length h
  have hl : 0 < xs.length := List.length_pos_iff.2 h0
  have : (nx bs xs.length s).1.toNat < xs.length := by
    by_cases h : (xs.length : Int) ≤ 1
    · rw [h2 h]; exact hl
    · have := h3 (by omega); omega
  show xs.getD _ 0 ∈ xs
  rw [List.getD_eq_getElem?_getD, List.getElem?_eq_getElem this]
  exact List.getElem_mem this
theorem c_l01Pick (v v2 : Nat) (d : Bool) (bs : List UInt8) (xs : List Int) (ys : List AV) (s : Src) (hy : ys = xs.map eI) (h0 : 0 < xs.length) (hx : xs.length ≤ 1000) (h : SrcOk s) (hl : bs.length ≤ 4096) :
    FnM Tryd.prog 104 [srcB v bs s, .row v2 ⟨1, false⟩ d ys] [.ptr 1000000000 v 0 0, .ref 1000000001 v2 0 xs.length] (fun x io => x = eI (pk bs xs s).1 ∧ io = [srcB v bs (pk bs xs s).2, .row v2 ⟨1, false⟩ d ys]) := by
  subst hy
  refine FnM.of_vcN 12 [.tmp 4] Tryd.func104 rfl rfl rfl rfl rfl (of_decide_eq_true rfl) ?_
  obtain ⟨h1, h2, h3, h4⟩ := nx_ok bs xs.length h
  have hc := fun v => c_l01Next v bs xs.length s h hl
  have hi : (nx bs xs.length s).1.toNat < xs.length := by
    by_cases h : (xs.length : Int) ≤ 1
    · rw [h2 h]; exact h0
    · have := h3 (by omega); omega
  have gi := get_some hi
  have hp : (pk bs xs s).1 = xs[(nx bs xs.length s).1.toNat] := by rw [pk]; simp [List.getD_eq_getElem?_getD, hi]
  have hp2 : (pk bs xs s).2 = (nx bs xs.length s).2 := rfl
  rw [hp, hp2]
  clear hp hp2
  simp -dsimp -implicitDefEqProofs only [go_sem, ↓reduceIte, Nat.reduceEqDiff, Nat.reduceLT, Nat.reduceAdd, Nat.reduceMul, Nat.reduceLeDiff, Nat.le_refl, Int.natCast_zero, Int.toNat_natCast, Int.reduceToNat]
  repeat' first
    | (with_reducible refine And.intro ?_ ?_)
    | (refine sCallT_io [1000000000] ?_; simp -dsimp -implicitDefEqProofs only [go_sem, ↓reduceIte, Nat.reduceEqDiff, Nat.reduceLT, Nat.reduceAdd, Nat.reduceMul, Nat.reduceLeDiff, Nat.le_refl, Int.natCast_zero, Int.toNat_natCast, Int.reduceToNat]; refine sCallM_one (hc _) ?_; simp -dsimp -implicitDefEqProofs only [go_sem, ↓reduceIte, Nat.reduceEqDiff, Nat.reduceLT, Nat.reduceAdd, Nat.reduceMul, Nat.reduceLeDiff, Nat.le_refl, Int.natCast_zero, Int.toNat_natCast, Int.reduceToNat, gi])
  all_goals first
    | omega
    | (refine ⟨?_, ?_⟩ <;> omega)
    | (refine ⟨?_, ?_⟩ <;> first | omega | rfl)
    | rfl
    | (simp; done)
    | trace_state
end Go.Vc
