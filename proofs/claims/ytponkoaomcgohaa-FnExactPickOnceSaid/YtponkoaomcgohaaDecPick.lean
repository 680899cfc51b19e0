/-
  Picks, read as data.
-/
import Derived.Test.YtponkoaomcgohaaDecImp
import Derived.Test.YtponkoaomcgohaaPick
set_option linter.unusedVariables false
set_option linter.unusedSimpArgs false
set_option linter.unnecessarySimpa false
namespace Go.Vc
open Go.Proofs
set_option maxRecDepth 100000
theorem dec_Pick : Dec Try.prog 49 (fun p : PkM => I64 p.chamber ∧ I64 p.depth) (fun p => [eI p.chamber, eI p.depth]) :=
  (Dec.struct Try.underlying49 (n := 2) (by kernel_rfl) (.cons rfl (n := 1) (by kernel_rfl) (fun _ => rfl) (Dec.i64 Try.underlying2) (.cons rfl (n := 1) (by kernel_rfl) (fun _ => rfl) (Dec.i64 Try.underlying2) (.nil _))) (fun _ => rfl)).map
    fun p h => ⟨⟨p.1, p.2.1⟩, ⟨h.1, h.2.1⟩, rfl⟩
theorem dec_PickS : Dec Try.prog 55 (fun xs : List PkM => xs.length ≤ maxLen ∧ ∀ a ∈ xs, I64 a.chamber ∧ I64 a.depth) (fun xs => [ePs xs]) :=
  Dec.slice true 2 Try.underlying55 (by kernel_rfl) (by decide) (fun h => by cases h) (fun _ => rfl) dec_Pick
end Go.Vc
