/-
  Codes, read as data.
-/
import Derived.Test.YtphhlffifljciaaVcTop
import Derived.Test.YtphhlffifljciaaSources
set_option linter.unusedVariables false
set_option linter.unusedSimpArgs false
set_option linter.unnecessarySimpa false
namespace Go.Vc
open Go.Proofs
set_option maxRecDepth 100000
theorem dec_Code : Dec Try.prog 35 (fun xs : List UInt8 => xs.length ≤ maxLen ∧ ∀ a ∈ xs, True) (fun xs => [eYs xs]) :=
  Dec.slice false 1 Try.underlying35 (by kernel_rfl) (by decide) (fun _ => rfl) (fun _ => rfl) (Dec.u8 Try.underlying5)
end Go.Vc
