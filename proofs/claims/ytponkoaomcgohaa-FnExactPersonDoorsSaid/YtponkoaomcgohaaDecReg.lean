/-
  Registers and events, read as data.
-/
import Derived.Test.YtponkoaomcgohaaVcTop
import Derived.Test.YtponkoaomcgohaaDat1
set_option linter.unusedVariables false
set_option linter.unusedSimpArgs false
set_option linter.unnecessarySimpa false
namespace Go.Vc
open Go.Proofs
theorem dec_Int64S : Dec Try.prog 27 (fun xs : List Int => xs.length ≤ maxLen ∧ ∀ a ∈ xs, I64 a) (fun xs => [eIs xs]) :=
  Dec.slice false 1 Try.underlying27 (by kernel_rfl) (by decide) (fun _ => rfl) (fun _ => rfl) (Dec.i64 Try.underlying2)
theorem dec_Tag : Dec Try.prog 116 (fun t : TagM => I64 t.row ∧ I64 t.state ∧ I64 t.person) (fun t => [eI t.row, eI t.state, eI t.person]) :=
  (Dec.struct Try.underlying116 (n := 3) (by kernel_rfl) (.cons rfl (n := 1) (by kernel_rfl) (fun _ => rfl) (Dec.i64 Try.underlying2)
    (.cons rfl (n := 1) (by kernel_rfl) (fun _ => rfl) (Dec.i64 Try.underlying2) (.cons rfl (n := 1) (by kernel_rfl) (fun _ => rfl) (Dec.i64 Try.underlying2) (.nil _)))) (fun _ => rfl)).map
    fun p h => ⟨⟨p.1, p.2.1, p.2.2.1⟩, ⟨h.1, h.2.1, h.2.2.1⟩, rfl⟩
theorem dec_TagS : Dec Try.prog 63 (fun xs : List TagM => xs.length ≤ maxLen ∧ ∀ t ∈ xs, I64 t.row ∧ I64 t.state ∧ I64 t.person) (fun xs => [eTags xs]) :=
  Dec.slice true 3 Try.underlying63 (by kernel_rfl) (by decide) (fun h => by cases h) (fun _ => rfl) dec_Tag
theorem dec_Register : Dec Try.prog 65 (fun r : RegM => (r.tags.length ≤ maxLen ∧ ∀ t ∈ r.tags, I64 t.row ∧ I64 t.state ∧ I64 t.person) ∧ (r.roles.length ≤ maxLen ∧ ∀ a ∈ r.roles, I64 a)) (fun r => [eTags r.tags, eIs r.roles]) :=
  (Dec.struct Try.underlying65 (n := 2) (by kernel_rfl) (.cons rfl (n := 1) (by kernel_rfl) (fun _ => rfl) dec_TagS (.cons rfl (n := 1) (by kernel_rfl) (fun _ => rfl) dec_Int64S (.nil _))) (fun _ => rfl)).map
    fun p h => ⟨⟨p.1, p.2.1⟩, ⟨h.1, h.2.1⟩, rfl⟩
end Go.Vc
