/-
  No cell of these rows narrows 'for every input' (looked for: loops, veiled, ifaces, maps, wideKeys, modest, calm, conditions, laid).
  DERIVED. THE GIVEN ROWS OF THIS SEAT. 8 by the template 'for every input the law returns true; each argument reads behind the call as it read before'; 0 by the template 'total and deterministic' (their statements: YtiegimakpiphoaaTotals.lean).
  GIVEN WITH THE SEED: the statements are not yours to turn. If you find one false, say at which input.
  Laid BY PROGRAM, IN A SANDBOX (cutbox-rows.mjs): the forced cells as the released guide's own fill.sh prints them over the translation 99a1e9e7ce53a945… (all of the seat's roots in one cut). By AI agents, Wed Nov 11 2026. No macro, syntax, notation, axiom, sorry.
-/
import Derived.Test.YtiegimakpiphoaaChecked
import GoSem.Claim
import GoSem.ClaimJoined
import GoSem.ClaimMapViews
import Derived.JoinedTies
import Derived.KernelRfl
namespace Go.Proofs.Ytiegimakpiphoaa
/- THE CELL 'sum', in the pinned program and in every row, IS THE sha256 OF THE DUMP (.gsa) THAT YtiegimakpiphoaaProg.lean LOADS. Nothing in Lean hashes anything: it is a label: what it is worth is what the hold of that sum in a sandbox is worth. -/
noncomputable def Try.pinned : Pinned := { name := "ytiegimakpiphoaa", sum := "99a1e9e7ce53a94559df87f34018a3db68bdefbd9d25430ca469b02b28bce8d4", checked := Try.checked }
namespace Rows
def none {H : Type} : Left H := { results := [], args := [] }

/-- 'laws.FnExactIsRegister': WHATEVER THE INPUT: true; the input reads as it did. -/
def fnExactIsRegisterSpec : ChangeSpec := { name := "fnExactIsRegister", fn := fun _ => fun
  | [d] => { results := [.lit (.bool true)], args := [d] }
  | _ => none }
def fnExactIsRegisterRow : OpenClaim := { program := "ytiegimakpiphoaa", sum := "99a1e9e7ce53a94559df87f34018a3db68bdefbd9d25430ca469b02b28bce8d4", func := "loop.example/g00947/laws.FnExactIsRegister", spec := "fnExactIsRegister", apart := false }
def FnExactIsRegisterSaid : Prop := fnExactIsRegisterRow.holds Try.pinned (OpenSpec.ofChange fnExactIsRegisterSpec)

/-- ITS FALSE NEIGHBOUR: 'it returns false'. Refute it at one input. -/
def fnExactIsRegisterWrong : ChangeSpec := { name := "fnExactIsRegister", fn := fun _ => fun
  | [d] => { results := [.lit (.bool false)], args := [d] }
  | _ => none }
def FnExactIsRegisterWrongFalsely : Prop := fnExactIsRegisterRow.holds Try.pinned (OpenSpec.ofChange fnExactIsRegisterWrong)

/-- 'laws.FnExactNewRegister': WHATEVER THE INPUT: true; the input reads as it did. -/
def fnExactNewRegisterSpec : ChangeSpec := { name := "fnExactNewRegister", fn := fun _ => fun
  | [d1, d2] => { results := [.lit (.bool true)], args := [d1, d2] }
  | _ => none }
def fnExactNewRegisterRow : OpenClaim := { program := "ytiegimakpiphoaa", sum := "99a1e9e7ce53a94559df87f34018a3db68bdefbd9d25430ca469b02b28bce8d4", func := "loop.example/g00947/laws.FnExactNewRegister", spec := "fnExactNewRegister", apart := false }
def FnExactNewRegisterSaid : Prop := fnExactNewRegisterRow.holds Try.pinned (OpenSpec.ofChange fnExactNewRegisterSpec)

/-- ITS FALSE NEIGHBOUR: 'it returns false'. Refute it at one input. -/
def fnExactNewRegisterWrong : ChangeSpec := { name := "fnExactNewRegister", fn := fun _ => fun
  | [d1, d2] => { results := [.lit (.bool false)], args := [d1, d2] }
  | _ => none }
def FnExactNewRegisterWrongFalsely : Prop := fnExactNewRegisterRow.holds Try.pinned (OpenSpec.ofChange fnExactNewRegisterWrong)

/-- 'laws.FnExactCountStates': WHATEVER THE INPUT: true; the input reads as it did. -/
def fnExactCountStatesSpec : ChangeSpec := { name := "fnExactCountStates", fn := fun _ => fun
  | [d] => { results := [.lit (.bool true)], args := [d] }
  | _ => none }
def fnExactCountStatesRow : OpenClaim := { program := "ytiegimakpiphoaa", sum := "99a1e9e7ce53a94559df87f34018a3db68bdefbd9d25430ca469b02b28bce8d4", func := "loop.example/g00947/laws.FnExactCountStates", spec := "fnExactCountStates", apart := false }
def FnExactCountStatesSaid : Prop := fnExactCountStatesRow.holds Try.pinned (OpenSpec.ofChange fnExactCountStatesSpec)

/-- ITS FALSE NEIGHBOUR: 'it returns false'. Refute it at one input. -/
def fnExactCountStatesWrong : ChangeSpec := { name := "fnExactCountStates", fn := fun _ => fun
  | [d] => { results := [.lit (.bool false)], args := [d] }
  | _ => none }
def FnExactCountStatesWrongFalsely : Prop := fnExactCountStatesRow.holds Try.pinned (OpenSpec.ofChange fnExactCountStatesWrong)

/-- 'laws.FnExactTagsWith': WHATEVER THE INPUT: true; the input reads as it did. -/
def fnExactTagsWithSpec : ChangeSpec := { name := "fnExactTagsWith", fn := fun _ => fun
  | [d1, d2] => { results := [.lit (.bool true)], args := [d1, d2] }
  | _ => none }
def fnExactTagsWithRow : OpenClaim := { program := "ytiegimakpiphoaa", sum := "99a1e9e7ce53a94559df87f34018a3db68bdefbd9d25430ca469b02b28bce8d4", func := "loop.example/g00947/laws.FnExactTagsWith", spec := "fnExactTagsWith", apart := false }
def FnExactTagsWithSaid : Prop := fnExactTagsWithRow.holds Try.pinned (OpenSpec.ofChange fnExactTagsWithSpec)

/-- ITS FALSE NEIGHBOUR: 'it returns false'. Refute it at one input. -/
def fnExactTagsWithWrong : ChangeSpec := { name := "fnExactTagsWith", fn := fun _ => fun
  | [d1, d2] => { results := [.lit (.bool false)], args := [d1, d2] }
  | _ => none }
def FnExactTagsWithWrongFalsely : Prop := fnExactTagsWithRow.holds Try.pinned (OpenSpec.ofChange fnExactTagsWithWrong)

/-- 'laws.FnExactIsPossible': WHATEVER THE INPUT: true; the input reads as it did. -/
def fnExactIsPossibleSpec : ChangeSpec := { name := "fnExactIsPossible", fn := fun _ => fun
  | [d1, d2] => { results := [.lit (.bool true)], args := [d1, d2] }
  | _ => none }
def fnExactIsPossibleRow : OpenClaim := { program := "ytiegimakpiphoaa", sum := "99a1e9e7ce53a94559df87f34018a3db68bdefbd9d25430ca469b02b28bce8d4", func := "loop.example/g00947/laws.FnExactIsPossible", spec := "fnExactIsPossible", apart := false }
def FnExactIsPossibleSaid : Prop := fnExactIsPossibleRow.holds Try.pinned (OpenSpec.ofChange fnExactIsPossibleSpec)

/-- ITS FALSE NEIGHBOUR: 'it returns false'. Refute it at one input. -/
def fnExactIsPossibleWrong : ChangeSpec := { name := "fnExactIsPossible", fn := fun _ => fun
  | [d1, d2] => { results := [.lit (.bool false)], args := [d1, d2] }
  | _ => none }
def FnExactIsPossibleWrongFalsely : Prop := fnExactIsPossibleRow.holds Try.pinned (OpenSpec.ofChange fnExactIsPossibleWrong)

/-- 'laws.FnExactApplyEvent': WHATEVER THE INPUT: true; the input reads as it did. -/
def fnExactApplyEventSpec : ChangeSpec := { name := "fnExactApplyEvent", fn := fun _ => fun
  | [d1, d2] => { results := [.lit (.bool true)], args := [d1, d2] }
  | _ => none }
def fnExactApplyEventRow : OpenClaim := { program := "ytiegimakpiphoaa", sum := "99a1e9e7ce53a94559df87f34018a3db68bdefbd9d25430ca469b02b28bce8d4", func := "loop.example/g00947/laws.FnExactApplyEvent", spec := "fnExactApplyEvent", apart := false }
def FnExactApplyEventSaid : Prop := fnExactApplyEventRow.holds Try.pinned (OpenSpec.ofChange fnExactApplyEventSpec)

/-- ITS FALSE NEIGHBOUR: 'it returns false'. Refute it at one input. -/
def fnExactApplyEventWrong : ChangeSpec := { name := "fnExactApplyEvent", fn := fun _ => fun
  | [d1, d2] => { results := [.lit (.bool false)], args := [d1, d2] }
  | _ => none }
def FnExactApplyEventWrongFalsely : Prop := fnExactApplyEventRow.holds Try.pinned (OpenSpec.ofChange fnExactApplyEventWrong)

/-- 'laws.FnRegisters': WHATEVER THE INPUT: true; the input reads as it did. -/
def fnRegistersSpec : ChangeSpec := { name := "fnRegisters", fn := fun _ => fun
  | [d] => { results := [.lit (.bool true)], args := [d] }
  | _ => none }
def fnRegistersRow : OpenClaim := { program := "ytiegimakpiphoaa", sum := "99a1e9e7ce53a94559df87f34018a3db68bdefbd9d25430ca469b02b28bce8d4", func := "loop.example/g00947/laws.FnRegisters", spec := "fnRegisters", apart := false }
def FnRegistersSaid : Prop := fnRegistersRow.holds Try.pinned (OpenSpec.ofChange fnRegistersSpec)

/-- ITS FALSE NEIGHBOUR: 'it returns false'. Refute it at one input. -/
def fnRegistersWrong : ChangeSpec := { name := "fnRegisters", fn := fun _ => fun
  | [d] => { results := [.lit (.bool false)], args := [d] }
  | _ => none }
def FnRegistersWrongFalsely : Prop := fnRegistersRow.holds Try.pinned (OpenSpec.ofChange fnRegistersWrong)

/-- 'laws.FnExactRunEvents': WHATEVER THE INPUT: true; the input reads as it did. -/
def fnExactRunEventsSpec : ChangeSpec := { name := "fnExactRunEvents", fn := fun _ => fun
  | [d1, d2] => { results := [.lit (.bool true)], args := [d1, d2] }
  | _ => none }
def fnExactRunEventsRow : OpenClaim := { program := "ytiegimakpiphoaa", sum := "99a1e9e7ce53a94559df87f34018a3db68bdefbd9d25430ca469b02b28bce8d4", func := "loop.example/g00947/laws.FnExactRunEvents", spec := "fnExactRunEvents", apart := false }
def FnExactRunEventsSaid : Prop := fnExactRunEventsRow.holds Try.pinned (OpenSpec.ofChange fnExactRunEventsSpec)

/-- ITS FALSE NEIGHBOUR: 'it returns false'. Refute it at one input. -/
def fnExactRunEventsWrong : ChangeSpec := { name := "fnExactRunEvents", fn := fun _ => fun
  | [d1, d2] => { results := [.lit (.bool false)], args := [d1, d2] }
  | _ => none }
def FnExactRunEventsWrongFalsely : Prop := fnExactRunEventsRow.holds Try.pinned (OpenSpec.ofChange fnExactRunEventsWrong)

/- THE SECOND FORM. 'bulk': how many values and letters a reading holds, each counted each time it is reached (what is shared counts as often as it is met; a slice's spare places count too). A statement '..UptoSaid' is the law's where the arguments, and the package variables that the reading takes, are together of bulk at most 1048576: NARROWER than '..Said'. Prove '..Said' where nothing that the law and all that it calls make is longer than what came in: it says more and counts as full. Else prove '..UptoSaid'. A law counts once. -/
mutual
def uptoBulk {H : Type} : DataW H → Nat
  | .lit (.string bytes) => bytes.length + 1
  | .lit _ => 1
  | .nil => 1
  | .ptr d => uptoBulk d + 1
  | .slice elems spare => uptoBulkAll elems + uptoBulkAll spare + 1
  | .agg parts => uptoBulkAll parts + 1
  | .iface _ d => uptoBulk d + 1
  | .map entries => uptoBulkEntries entries + 1
  | .held _ => 1
def uptoBulkAll {H : Type} : List (DataW H) → Nat
  | [] => 0
  | d :: r => uptoBulk d + uptoBulkAll r
def uptoBulkEntries {H : Type} : List (Lit × DataW H) → Nat
  | [] => 0
  | x :: r => uptoBulkEntry x + uptoBulkEntries r
def uptoBulkEntry {H : Type} : Lit × DataW H → Nat
  | (.string bytes, d) => bytes.length + uptoBulk d + 1
  | (_, d) => uptoBulk d + 1
 end
def uptoSmall : (H : Type) → List (DataW H) → Bool := fun _ ds => decide (uptoBulkAll ds ≤ 1048576)
def OpenSpec.upto (s : _root_.Go.ChangeSpec) : _root_.Go.OpenSpec := { _root_.Go.OpenSpec.ofChange s with cond := some uptoSmall }

/-- 'laws.FnExactIsRegister', WHERE WHAT IT READS IS OF BULK AT MOST 1048576: true; the input reads as it did. -/
def fnExactIsRegisterUptoRow : OpenClaim := { program := "ytiegimakpiphoaa", sum := "99a1e9e7ce53a94559df87f34018a3db68bdefbd9d25430ca469b02b28bce8d4", func := "loop.example/g00947/laws.FnExactIsRegister", spec := "fnExactIsRegister", apart := false, narrowed := true }
def FnExactIsRegisterUptoSaid : Prop := fnExactIsRegisterUptoRow.holds Try.pinned (OpenSpec.upto fnExactIsRegisterSpec)

/-- 'laws.FnExactNewRegister', WHERE WHAT IT READS IS OF BULK AT MOST 1048576: true; the input reads as it did. -/
def fnExactNewRegisterUptoRow : OpenClaim := { program := "ytiegimakpiphoaa", sum := "99a1e9e7ce53a94559df87f34018a3db68bdefbd9d25430ca469b02b28bce8d4", func := "loop.example/g00947/laws.FnExactNewRegister", spec := "fnExactNewRegister", apart := false, narrowed := true }
def FnExactNewRegisterUptoSaid : Prop := fnExactNewRegisterUptoRow.holds Try.pinned (OpenSpec.upto fnExactNewRegisterSpec)

/-- 'laws.FnExactCountStates', WHERE WHAT IT READS IS OF BULK AT MOST 1048576: true; the input reads as it did. -/
def fnExactCountStatesUptoRow : OpenClaim := { program := "ytiegimakpiphoaa", sum := "99a1e9e7ce53a94559df87f34018a3db68bdefbd9d25430ca469b02b28bce8d4", func := "loop.example/g00947/laws.FnExactCountStates", spec := "fnExactCountStates", apart := false, narrowed := true }
def FnExactCountStatesUptoSaid : Prop := fnExactCountStatesUptoRow.holds Try.pinned (OpenSpec.upto fnExactCountStatesSpec)

/-- 'laws.FnExactTagsWith', WHERE WHAT IT READS IS OF BULK AT MOST 1048576: true; the input reads as it did. -/
def fnExactTagsWithUptoRow : OpenClaim := { program := "ytiegimakpiphoaa", sum := "99a1e9e7ce53a94559df87f34018a3db68bdefbd9d25430ca469b02b28bce8d4", func := "loop.example/g00947/laws.FnExactTagsWith", spec := "fnExactTagsWith", apart := false, narrowed := true }
def FnExactTagsWithUptoSaid : Prop := fnExactTagsWithUptoRow.holds Try.pinned (OpenSpec.upto fnExactTagsWithSpec)

/-- 'laws.FnExactIsPossible', WHERE WHAT IT READS IS OF BULK AT MOST 1048576: true; the input reads as it did. -/
def fnExactIsPossibleUptoRow : OpenClaim := { program := "ytiegimakpiphoaa", sum := "99a1e9e7ce53a94559df87f34018a3db68bdefbd9d25430ca469b02b28bce8d4", func := "loop.example/g00947/laws.FnExactIsPossible", spec := "fnExactIsPossible", apart := false, narrowed := true }
def FnExactIsPossibleUptoSaid : Prop := fnExactIsPossibleUptoRow.holds Try.pinned (OpenSpec.upto fnExactIsPossibleSpec)

/-- 'laws.FnExactApplyEvent', WHERE WHAT IT READS IS OF BULK AT MOST 1048576: true; the input reads as it did. -/
def fnExactApplyEventUptoRow : OpenClaim := { program := "ytiegimakpiphoaa", sum := "99a1e9e7ce53a94559df87f34018a3db68bdefbd9d25430ca469b02b28bce8d4", func := "loop.example/g00947/laws.FnExactApplyEvent", spec := "fnExactApplyEvent", apart := false, narrowed := true }
def FnExactApplyEventUptoSaid : Prop := fnExactApplyEventUptoRow.holds Try.pinned (OpenSpec.upto fnExactApplyEventSpec)

/-- 'laws.FnRegisters', WHERE WHAT IT READS IS OF BULK AT MOST 1048576: true; the input reads as it did. -/
def fnRegistersUptoRow : OpenClaim := { program := "ytiegimakpiphoaa", sum := "99a1e9e7ce53a94559df87f34018a3db68bdefbd9d25430ca469b02b28bce8d4", func := "loop.example/g00947/laws.FnRegisters", spec := "fnRegisters", apart := false, narrowed := true }
def FnRegistersUptoSaid : Prop := fnRegistersUptoRow.holds Try.pinned (OpenSpec.upto fnRegistersSpec)

/-- 'laws.FnExactRunEvents', WHERE WHAT IT READS IS OF BULK AT MOST 1048576: true; the input reads as it did. -/
def fnExactRunEventsUptoRow : OpenClaim := { program := "ytiegimakpiphoaa", sum := "99a1e9e7ce53a94559df87f34018a3db68bdefbd9d25430ca469b02b28bce8d4", func := "loop.example/g00947/laws.FnExactRunEvents", spec := "fnExactRunEvents", apart := false, narrowed := true }
def FnExactRunEventsUptoSaid : Prop := fnExactRunEventsUptoRow.holds Try.pinned (OpenSpec.upto fnExactRunEventsSpec)

end Rows
end Go.Proofs.Ytiegimakpiphoaa
