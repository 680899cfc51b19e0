/-
  What the law FnExactNewRegister is handed, read as data.
-/
import Derived.Test.YtiegimakpiphoaaDecReg
import Derived.Test.YtiegimakpiphoaaNewReg
set_option linter.unusedVariables false
set_option linter.unusedSimpArgs false
set_option linter.unnecessarySimpa false
