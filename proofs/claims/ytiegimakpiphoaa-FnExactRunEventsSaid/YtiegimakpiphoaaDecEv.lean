/-
  Events, read as data.
-/
import Derived.Test.YtiegimakpiphoaaDecReg
import Derived.Test.YtiegimakpiphoaaEvent
set_option linter.unusedVariables false
set_option linter.unusedSimpArgs false
set_option linter.unnecessarySimpa false
namespace Go.Vc
open Go.Proofs
set_option maxRecDepth 100000
theorem dec_Int : Dec Try.prog 2 I64 (fun n : Int => [eI n]) := Dec.i64 Try.underlying2
theorem dec_Event : Dec Try.prog 45 (fun e : EvM => I64 e.kind ∧ I64 e.tag ∧ I64 e.person ∧ I64 e.who) (fun e => [eI e.kind, eI e.tag, eI e.person, eI e.who]) :=
  (Dec.struct Try.underlying45 (n := 4) (by kernel_rfl) (.cons rfl (n := 1) (by kernel_rfl) (fun _ => rfl) (Dec.i64 Try.underlying2) (.cons rfl (n := 1) (by kernel_rfl) (fun _ => rfl) (Dec.i64 Try.underlying2)
    (.cons rfl (n := 1) (by kernel_rfl) (fun _ => rfl) (Dec.i64 Try.underlying2) (.cons rfl (n := 1) (by kernel_rfl) (fun _ => rfl) (Dec.i64 Try.underlying2) (.nil _))))) (fun _ => rfl)).map
    fun p h => ⟨⟨p.1, p.2.1, p.2.2.1, p.2.2.2.1⟩, ⟨h.1, h.2.1, h.2.2.1, h.2.2.2.1⟩, rfl⟩
theorem dec_EventS : Dec Try.prog 60 (fun xs : List EvM => xs.length ≤ maxLen ∧ ∀ e ∈ xs, I64 e.kind ∧ I64 e.tag ∧ I64 e.person ∧ I64 e.who) (fun xs => [eEvs xs]) :=
  Dec.slice true 4 Try.underlying60 (by kernel_rfl) (by decide) (fun h => by cases h) (fun _ => rfl) dec_Event
end Go.Vc
