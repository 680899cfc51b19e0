/-
  Strings, read as data.
-/
import Derived.Test.YtlelhmbhhnokoaaDoorVcTop
import Derived.Test.YtlelhmbhhnokoaaDoorDecim
import Derived.Test.YtlelhmbhhnokoaaDoorProg
set_option linter.unusedVariables false
set_option linter.unusedSimpArgs false
set_option linter.unnecessarySimpa false
namespace Go.Vc
open Go.Proofs
set_option maxRecDepth 100000
theorem dec_Str : Dec Tryd.prog 9 (fun t : List UInt8 => t.length ≤ maxLen) (fun t => [eS t]) :=
  (Dec.string Tryd.underlying9).map fun s h => ⟨s.data.toList, h, rfl⟩
end Go.Vc
