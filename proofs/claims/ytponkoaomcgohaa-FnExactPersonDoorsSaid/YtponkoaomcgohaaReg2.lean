/-
  Contracts of the register functions that make registers and lists.
-/
import Derived.Test.YtponkoaomcgohaaMark
set_option linter.unusedVariables false
set_option linter.unusedSimpArgs false
set_option linter.unnecessarySimpa false
namespace Go.Vc
open Go.Proofs
set_option maxRecDepth 100000
def newReg (rows roles : List Int) : RegM := ⟨rows.map fun x => ⟨x, 0, -1⟩, roles⟩
def newRegister (rows roles : List Int) : RegM × Int := if isReg (newReg rows roles) then (newReg rows roles, 0) else (⟨[], []⟩, 2)
end Go.Vc
