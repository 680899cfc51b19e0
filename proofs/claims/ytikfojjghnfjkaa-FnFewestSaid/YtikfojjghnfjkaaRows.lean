/-
  No cell of these rows narrows 'for every input' (looked for: loops, veiled, ifaces, maps, wideKeys, modest, calm, conditions, laid).
  DERIVED. THE GIVEN ROWS OF THIS SEAT. 5 by the template 'for every input the law returns true; each argument reads behind the call as it read before'; 0 by the template 'total and deterministic' (their statements: YtikfojjghnfjkaaTotals.lean).
  GIVEN WITH THE SEED: the statements are not yours to turn. If you find one false, say at which input.
  Laid BY PROGRAM, IN A SANDBOX (cutbox-rows.mjs): the forced cells as the released guide's own fill.sh prints them over the translation 7e4fad2990b65115… (all of the seat's roots in one cut). By AI agents, Wed Nov 11 2026. No macro, syntax, notation, axiom, sorry.
-/
import Derived.Test.YtikfojjghnfjkaaChecked
import GoSem.Claim
import GoSem.ClaimJoined
import GoSem.ClaimMapViews
import Derived.JoinedTies
import Derived.KernelRfl
namespace Go.Proofs.Ytikfojjghnfjkaa
/- THE CELL 'sum', in the pinned program and in every row, IS THE sha256 OF THE DUMP (.gsa) THAT YtikfojjghnfjkaaProg.lean LOADS. Nothing in Lean hashes anything: it is a label: what it is worth is what the hold of that sum in a sandbox is worth. -/
noncomputable def Try.pinned : Pinned := { name := "ytikfojjghnfjkaa", sum := "7e4fad2990b6511586cf2f4c29447869f4170aeeee2fad1e9e64334cfeea4b40", checked := Try.checked }
namespace Rows
def none {H : Type} : Left H := { results := [], args := [] }

/-- 'laws.FnHolders': WHATEVER THE INPUT: true; the input reads as it did. -/
def fnHoldersSpec : ChangeSpec := { name := "fnHolders", fn := fun _ => fun
  | [d] => { results := [.lit (.bool true)], args := [d] }
  | _ => none }
def fnHoldersRow : OpenClaim := { program := "ytikfojjghnfjkaa", sum := "7e4fad2990b6511586cf2f4c29447869f4170aeeee2fad1e9e64334cfeea4b40", func := "loop.example/g00947/laws.FnHolders", spec := "fnHolders", unfollowed := true, recurses := true, apart := false }
def FnHoldersSaid : Prop := fnHoldersRow.holds Try.pinned (OpenSpec.ofChange fnHoldersSpec)

/-- ITS FALSE NEIGHBOUR: 'it returns false'. Refute it at one input. -/
def fnHoldersWrong : ChangeSpec := { name := "fnHolders", fn := fun _ => fun
  | [d] => { results := [.lit (.bool false)], args := [d] }
  | _ => none }
def FnHoldersWrongFalsely : Prop := fnHoldersRow.holds Try.pinned (OpenSpec.ofChange fnHoldersWrong)

/-- 'laws.FnImpressions': WHATEVER THE INPUT: true; the input reads as it did. -/
def fnImpressionsSpec : ChangeSpec := { name := "fnImpressions", fn := fun _ => fun
  | [d] => { results := [.lit (.bool true)], args := [d] }
  | _ => none }
def fnImpressionsRow : OpenClaim := { program := "ytikfojjghnfjkaa", sum := "7e4fad2990b6511586cf2f4c29447869f4170aeeee2fad1e9e64334cfeea4b40", func := "loop.example/g00947/laws.FnImpressions", spec := "fnImpressions", recurses := true, apart := false }
def FnImpressionsSaid : Prop := fnImpressionsRow.holds Try.pinned (OpenSpec.ofChange fnImpressionsSpec)

/-- ITS FALSE NEIGHBOUR: 'it returns false'. Refute it at one input. -/
def fnImpressionsWrong : ChangeSpec := { name := "fnImpressions", fn := fun _ => fun
  | [d] => { results := [.lit (.bool false)], args := [d] }
  | _ => none }
def FnImpressionsWrongFalsely : Prop := fnImpressionsRow.holds Try.pinned (OpenSpec.ofChange fnImpressionsWrong)

/-- 'laws.FnMarks': WHATEVER THE INPUT: true; the input reads as it did. -/
def fnMarksSpec : ChangeSpec := { name := "fnMarks", fn := fun _ => fun
  | [d] => { results := [.lit (.bool true)], args := [d] }
  | _ => none }
def fnMarksRow : OpenClaim := { program := "ytikfojjghnfjkaa", sum := "7e4fad2990b6511586cf2f4c29447869f4170aeeee2fad1e9e64334cfeea4b40", func := "loop.example/g00947/laws.FnMarks", spec := "fnMarks", recurses := true, apart := false }
def FnMarksSaid : Prop := fnMarksRow.holds Try.pinned (OpenSpec.ofChange fnMarksSpec)

/-- ITS FALSE NEIGHBOUR: 'it returns false'. Refute it at one input. -/
def fnMarksWrong : ChangeSpec := { name := "fnMarks", fn := fun _ => fun
  | [d] => { results := [.lit (.bool false)], args := [d] }
  | _ => none }
def FnMarksWrongFalsely : Prop := fnMarksRow.holds Try.pinned (OpenSpec.ofChange fnMarksWrong)

/-- 'laws.FnPicked': WHATEVER THE INPUT: true; the input reads as it did. -/
def fnPickedSpec : ChangeSpec := { name := "fnPicked", fn := fun _ => fun
  | [d] => { results := [.lit (.bool true)], args := [d] }
  | _ => none }
def fnPickedRow : OpenClaim := { program := "ytikfojjghnfjkaa", sum := "7e4fad2990b6511586cf2f4c29447869f4170aeeee2fad1e9e64334cfeea4b40", func := "loop.example/g00947/laws.FnPicked", spec := "fnPicked", recurses := true, apart := false }
def FnPickedSaid : Prop := fnPickedRow.holds Try.pinned (OpenSpec.ofChange fnPickedSpec)

/-- ITS FALSE NEIGHBOUR: 'it returns false'. Refute it at one input. -/
def fnPickedWrong : ChangeSpec := { name := "fnPicked", fn := fun _ => fun
  | [d] => { results := [.lit (.bool false)], args := [d] }
  | _ => none }
def FnPickedWrongFalsely : Prop := fnPickedRow.holds Try.pinned (OpenSpec.ofChange fnPickedWrong)

/-- 'laws.FnFewest': WHATEVER THE INPUT: true; the input reads as it did. -/
def fnFewestSpec : ChangeSpec := { name := "fnFewest", fn := fun _ => fun
  | [d] => { results := [.lit (.bool true)], args := [d] }
  | _ => none }
def fnFewestRow : OpenClaim := { program := "ytikfojjghnfjkaa", sum := "7e4fad2990b6511586cf2f4c29447869f4170aeeee2fad1e9e64334cfeea4b40", func := "loop.example/g00947/laws.FnFewest", spec := "fnFewest", recurses := true, apart := false }
def FnFewestSaid : Prop := fnFewestRow.holds Try.pinned (OpenSpec.ofChange fnFewestSpec)

/-- ITS FALSE NEIGHBOUR: 'it returns false'. Refute it at one input. -/
def fnFewestWrong : ChangeSpec := { name := "fnFewest", fn := fun _ => fun
  | [d] => { results := [.lit (.bool false)], args := [d] }
  | _ => none }
def FnFewestWrongFalsely : Prop := fnFewestRow.holds Try.pinned (OpenSpec.ofChange fnFewestWrong)

/- THE SECOND FORM. 'bulk': how many values and letters a reading holds, each counted each time it is reached (what is shared counts as often as it is met; a slice's spare places count too). A statement '..UptoSaid' is the law's where the arguments, and the package variables that the reading takes, are together of bulk at most 1048576: NARROWER than '..Said'. Prove '..Said' where nothing that the law and all that it calls make is longer than what came in: it says more and counts as full. Else prove '..UptoSaid'. A law counts once. -/
mutual
def uptoBulk {H : Type} : DataW H → Nat
  | .lit (.string bytes) => bytes.length + 1
  | .lit _ => 1
  | .nil => 1
  | .ptr d => uptoBulk d + 1
  | .slice elems spare => uptoBulkAll elems + uptoBulkAll spare + 1
  | .agg parts => uptoBulkAll parts + 1
  | .iface _ d => uptoBulk d + 1
  | .map entries => uptoBulkEntries entries + 1
  | .held _ => 1
def uptoBulkAll {H : Type} : List (DataW H) → Nat
  | [] => 0
  | d :: r => uptoBulk d + uptoBulkAll r
def uptoBulkEntries {H : Type} : List (Lit × DataW H) → Nat
  | [] => 0
  | x :: r => uptoBulkEntry x + uptoBulkEntries r
def uptoBulkEntry {H : Type} : Lit × DataW H → Nat
  | (.string bytes, d) => bytes.length + uptoBulk d + 1
  | (_, d) => uptoBulk d + 1
 end
def uptoSmall : (H : Type) → List (DataW H) → Bool := fun _ ds => decide (uptoBulkAll ds ≤ 1048576)
def OpenSpec.upto (s : _root_.Go.ChangeSpec) : _root_.Go.OpenSpec := { _root_.Go.OpenSpec.ofChange s with cond := some uptoSmall }

/-- 'laws.FnHolders', WHERE WHAT IT READS IS OF BULK AT MOST 1048576: true; the input reads as it did. -/
def fnHoldersUptoRow : OpenClaim := { program := "ytikfojjghnfjkaa", sum := "7e4fad2990b6511586cf2f4c29447869f4170aeeee2fad1e9e64334cfeea4b40", func := "loop.example/g00947/laws.FnHolders", spec := "fnHolders", unfollowed := true, recurses := true, apart := false, narrowed := true }
def FnHoldersUptoSaid : Prop := fnHoldersUptoRow.holds Try.pinned (OpenSpec.upto fnHoldersSpec)

/-- 'laws.FnImpressions', WHERE WHAT IT READS IS OF BULK AT MOST 1048576: true; the input reads as it did. -/
def fnImpressionsUptoRow : OpenClaim := { program := "ytikfojjghnfjkaa", sum := "7e4fad2990b6511586cf2f4c29447869f4170aeeee2fad1e9e64334cfeea4b40", func := "loop.example/g00947/laws.FnImpressions", spec := "fnImpressions", recurses := true, apart := false, narrowed := true }
def FnImpressionsUptoSaid : Prop := fnImpressionsUptoRow.holds Try.pinned (OpenSpec.upto fnImpressionsSpec)

/-- 'laws.FnMarks', WHERE WHAT IT READS IS OF BULK AT MOST 1048576: true; the input reads as it did. -/
def fnMarksUptoRow : OpenClaim := { program := "ytikfojjghnfjkaa", sum := "7e4fad2990b6511586cf2f4c29447869f4170aeeee2fad1e9e64334cfeea4b40", func := "loop.example/g00947/laws.FnMarks", spec := "fnMarks", recurses := true, apart := false, narrowed := true }
def FnMarksUptoSaid : Prop := fnMarksUptoRow.holds Try.pinned (OpenSpec.upto fnMarksSpec)

/-- 'laws.FnPicked', WHERE WHAT IT READS IS OF BULK AT MOST 1048576: true; the input reads as it did. -/
def fnPickedUptoRow : OpenClaim := { program := "ytikfojjghnfjkaa", sum := "7e4fad2990b6511586cf2f4c29447869f4170aeeee2fad1e9e64334cfeea4b40", func := "loop.example/g00947/laws.FnPicked", spec := "fnPicked", recurses := true, apart := false, narrowed := true }
def FnPickedUptoSaid : Prop := fnPickedUptoRow.holds Try.pinned (OpenSpec.upto fnPickedSpec)

/-- 'laws.FnFewest', WHERE WHAT IT READS IS OF BULK AT MOST 1048576: true; the input reads as it did. -/
def fnFewestUptoRow : OpenClaim := { program := "ytikfojjghnfjkaa", sum := "7e4fad2990b6511586cf2f4c29447869f4170aeeee2fad1e9e64334cfeea4b40", func := "loop.example/g00947/laws.FnFewest", spec := "fnFewest", recurses := true, apart := false, narrowed := true }
def FnFewestUptoSaid : Prop := fnFewestUptoRow.holds Try.pinned (OpenSpec.upto fnFewestSpec)

end Rows
end Go.Proofs.Ytikfojjghnfjkaa
