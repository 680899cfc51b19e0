/-
  Strings and events, read as data.
-/
import Derived.Test.YtnmaeefcjdbpcaaGreatDoorVcTop
import Derived.Test.YtnmaeefcjdbpcaaGreatDoorEvM
import Derived.Test.YtnmaeefcjdbpcaaGreatDoorDecim
set_option linter.unusedVariables false
set_option linter.unusedSimpArgs false
set_option linter.unnecessarySimpa false
namespace Go.Vc
open Go.Proofs
set_option maxRecDepth 100000
theorem dec_Int : Dec Tryz.prog 2 I64 (fun n : Int => [eI n]) := Dec.i64 Tryz.underlying2
theorem dec_Str : Dec Tryz.prog 9 (fun t : List UInt8 => t.length ≤ maxLen) (fun t => [eS t]) :=
  (Dec.string Tryz.underlying9).map fun s h => ⟨s.data.toList, h, rfl⟩
end Go.Vc
