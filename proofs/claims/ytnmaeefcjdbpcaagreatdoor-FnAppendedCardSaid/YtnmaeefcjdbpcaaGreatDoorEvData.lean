/-
  Contracts of the laws' helpers for events.
-/
import Derived.Test.YtnmaeefcjdbpcaaGreatDoorEvM
set_option linter.unusedVariables false
set_option linter.unusedSimpArgs false
set_option linter.unnecessarySimpa false
namespace Go.Vc
open Go.Proofs
set_option maxRecDepth 100000
end Go.Vc
