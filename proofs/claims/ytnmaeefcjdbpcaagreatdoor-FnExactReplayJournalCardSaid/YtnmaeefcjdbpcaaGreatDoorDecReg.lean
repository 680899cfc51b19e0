/-
  Registers and events, read as data.
-/
import Derived.Test.YtnmaeefcjdbpcaaGreatDoorVcTop
import Derived.Test.YtnmaeefcjdbpcaaGreatDoorDat1
set_option linter.unusedVariables false
set_option linter.unusedSimpArgs false
set_option linter.unnecessarySimpa false
namespace Go.Vc
open Go.Proofs
theorem dec_Int64S : Dec Tryz.prog 23 (fun xs : List Int => xs.length ≤ maxLen ∧ ∀ a ∈ xs, I64 a) (fun xs => [eIs xs]) :=
  Dec.slice false 1 Tryz.underlying23 (by kernel_rfl) (by decide) (fun _ => rfl) (fun _ => rfl) (Dec.i64 Tryz.underlying2)
theorem dec_Tag : Dec Tryz.prog 84 (fun t : TagM => I64 t.row ∧ I64 t.state ∧ I64 t.person) (fun t => [eI t.row, eI t.state, eI t.person]) :=
  (Dec.struct Tryz.underlying84 (n := 3) (by kernel_rfl) (.cons rfl (n := 1) (by kernel_rfl) (fun _ => rfl) (Dec.i64 Tryz.underlying2)
    (.cons rfl (n := 1) (by kernel_rfl) (fun _ => rfl) (Dec.i64 Tryz.underlying2) (.cons rfl (n := 1) (by kernel_rfl) (fun _ => rfl) (Dec.i64 Tryz.underlying2) (.nil _)))) (fun _ => rfl)).map
    fun p h => ⟨⟨p.1, p.2.1, p.2.2.1⟩, ⟨h.1, h.2.1, h.2.2.1⟩, rfl⟩
theorem dec_TagS : Dec Tryz.prog 22 (fun xs : List TagM => xs.length ≤ maxLen ∧ ∀ t ∈ xs, I64 t.row ∧ I64 t.state ∧ I64 t.person) (fun xs => [eTags xs]) :=
  Dec.slice true 3 Tryz.underlying22 (by kernel_rfl) (by decide) (fun h => by cases h) (fun _ => rfl) dec_Tag
theorem dec_Register : Dec Tryz.prog 25 (fun r : RegM => (r.tags.length ≤ maxLen ∧ ∀ t ∈ r.tags, I64 t.row ∧ I64 t.state ∧ I64 t.person) ∧ (r.roles.length ≤ maxLen ∧ ∀ a ∈ r.roles, I64 a)) (fun r => [eTags r.tags, eIs r.roles]) :=
  (Dec.struct Tryz.underlying25 (n := 2) (by kernel_rfl) (.cons rfl (n := 1) (by kernel_rfl) (fun _ => rfl) dec_TagS (.cons rfl (n := 1) (by kernel_rfl) (fun _ => rfl) dec_Int64S (.nil _))) (fun _ => rfl)).map
    fun p h => ⟨⟨p.1, p.2.1⟩, ⟨h.1, h.2.1⟩, rfl⟩
end Go.Vc
