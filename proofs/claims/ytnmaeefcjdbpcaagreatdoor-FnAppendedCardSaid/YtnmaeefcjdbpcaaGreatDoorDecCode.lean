/-
  Codes, read as data.
-/
import Derived.Test.YtnmaeefcjdbpcaaGreatDoorVcTop
import Derived.Test.YtnmaeefcjdbpcaaGreatDoorSources
set_option linter.unusedVariables false
set_option linter.unusedSimpArgs false
set_option linter.unnecessarySimpa false
namespace Go.Vc
open Go.Proofs
set_option maxRecDepth 100000
theorem dec_Code : Dec Tryz.prog 36 (fun xs : List UInt8 => xs.length ≤ maxLen ∧ ∀ a ∈ xs, True) (fun xs => [eYs xs]) :=
  Dec.slice false 1 Tryz.underlying36 (by kernel_rfl) (by decide) (fun _ => rfl) (fun _ => rfl) (Dec.u8 Tryz.underlying5)
end Go.Vc
