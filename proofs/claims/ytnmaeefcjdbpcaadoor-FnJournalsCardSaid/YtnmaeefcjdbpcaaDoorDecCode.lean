/-
  Codes, read as data.
-/
import Derived.Test.YtnmaeefcjdbpcaaDoorVcTop
import Derived.Test.YtnmaeefcjdbpcaaDoorSrc
set_option linter.unusedVariables false
set_option linter.unusedSimpArgs false
set_option linter.unnecessarySimpa false
namespace Go.Vc
open Go.Proofs
set_option maxRecDepth 100000
theorem dec_Code : Dec Tryd.prog 50 (fun xs : List UInt8 => xs.length ≤ maxLen ∧ ∀ a ∈ xs, True) (fun xs => [eYs xs]) :=
  Dec.slice false 1 Tryd.underlying50 (by kernel_rfl) (by decide) (fun _ => rfl) (fun _ => rfl) (Dec.u8 Tryd.underlying5)
end Go.Vc
