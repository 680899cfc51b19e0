/-
  Strings and events, read as data.
-/
import Derived.Test.YtnmaeefcjdbpcaaDoorVcTop
import Derived.Test.YtnmaeefcjdbpcaaDoorEvM
import Derived.Test.YtnmaeefcjdbpcaaDoorDecim
set_option linter.unusedVariables false
set_option linter.unusedSimpArgs false
set_option linter.unnecessarySimpa false
namespace Go.Vc
open Go.Proofs
set_option maxRecDepth 100000
theorem dec_Int : Dec Tryd.prog 2 I64 (fun n : Int => [eI n]) := Dec.i64 Tryd.underlying2
theorem dec_Str : Dec Tryd.prog 9 (fun t : List UInt8 => t.length ≤ maxLen) (fun t => [eS t]) :=
  (Dec.string Tryd.underlying9).map fun s h => ⟨s.data.toList, h, rfl⟩
theorem dec_Event : Dec Tryd.prog 43 (fun e : EvM => I64 e.kind ∧ I64 e.tag ∧ I64 e.person ∧ I64 e.who) (fun e => [eI e.kind, eI e.tag, eI e.person, eI e.who]) :=
  (Dec.struct Tryd.underlying43 (n := 4) (by kernel_rfl) (.cons rfl (n := 1) (by kernel_rfl) (fun _ => rfl) (Dec.i64 Tryd.underlying2) (.cons rfl (n := 1) (by kernel_rfl) (fun _ => rfl) (Dec.i64 Tryd.underlying2)
    (.cons rfl (n := 1) (by kernel_rfl) (fun _ => rfl) (Dec.i64 Tryd.underlying2) (.cons rfl (n := 1) (by kernel_rfl) (fun _ => rfl) (Dec.i64 Tryd.underlying2) (.nil _))))) (fun _ => rfl)).map
    fun p h => ⟨⟨p.1, p.2.1, p.2.2.1, p.2.2.2.1⟩, ⟨h.1, h.2.1, h.2.2.1, h.2.2.2.1⟩, rfl⟩
theorem dec_EventS : Dec Tryd.prog 22 (fun xs : List EvM => xs.length ≤ maxLen ∧ ∀ e ∈ xs, I64 e.kind ∧ I64 e.tag ∧ I64 e.person ∧ I64 e.who) (fun xs => [eEvs xs]) :=
  Dec.slice true 4 Tryd.underlying22 (by kernel_rfl) (by decide) (fun h => by cases h) (fun _ => rfl) dec_Event
end Go.Vc
