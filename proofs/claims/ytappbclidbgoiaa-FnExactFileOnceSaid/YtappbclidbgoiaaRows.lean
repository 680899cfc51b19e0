/-
  No cell of these rows narrows 'for every input' (looked for: loops, veiled, ifaces, maps, wideKeys, modest, calm, conditions, laid).
  DERIVED. THE GIVEN ROWS OF THIS SEAT. 10 by the template 'for every input the law returns true; each argument reads behind the call as it read before'; 0 by the template 'total and deterministic' (their statements: YtappbclidbgoiaaTotals.lean).
  GIVEN WITH THE SEED: the statements are not yours to turn. If you find one false, say at which input.
  Laid BY PROGRAM, IN A SANDBOX (cutbox-rows.mjs): the forced cells as the released guide's own fill.sh prints them over the translation 6a7c68b3ba245e03… (all of the seat's roots in one cut). By AI agents, Wed Nov 11 2026. No macro, syntax, notation, axiom, sorry.
-/
import Derived.Test.YtappbclidbgoiaaChecked
import GoSem.Claim
import GoSem.ClaimJoined
import GoSem.ClaimMapViews
import Derived.JoinedTies
import Derived.KernelRfl
namespace Go.Proofs.Ytappbclidbgoiaa
/- THE CELL 'sum', in the pinned program and in every row, IS THE sha256 OF THE DUMP (.gsa) THAT YtappbclidbgoiaaProg.lean LOADS. Nothing in Lean hashes anything: it is a label: what it is worth is what the hold of that sum in a sandbox is worth. -/
noncomputable def Try.pinned : Pinned := { name := "ytappbclidbgoiaa", sum := "6a7c68b3ba245e038f87f726ebf81635f580777e1600e0d7c9bde283bb9b2832", checked := Try.checked }
namespace Rows
def none {H : Type} : Left H := { results := [], args := [] }

/-- 'laws.FnExactCutsMade': WHATEVER THE INPUT: true; the input reads as it did. -/
def fnExactCutsMadeSpec : ChangeSpec := { name := "fnExactCutsMade", fn := fun _ => fun
  | [d1, d2] => { results := [.lit (.bool true)], args := [d1, d2] }
  | _ => none }
def fnExactCutsMadeRow : OpenClaim := { program := "ytappbclidbgoiaa", sum := "6a7c68b3ba245e038f87f726ebf81635f580777e1600e0d7c9bde283bb9b2832", func := "loop.example/g00947/laws.FnExactCutsMade", spec := "fnExactCutsMade", apart := false }
def FnExactCutsMadeSaid : Prop := fnExactCutsMadeRow.holds Try.pinned (OpenSpec.ofChange fnExactCutsMadeSpec)

/-- ITS FALSE NEIGHBOUR: 'it returns false'. Refute it at one input. -/
def fnExactCutsMadeWrong : ChangeSpec := { name := "fnExactCutsMade", fn := fun _ => fun
  | [d1, d2] => { results := [.lit (.bool false)], args := [d1, d2] }
  | _ => none }
def FnExactCutsMadeWrongFalsely : Prop := fnExactCutsMadeRow.holds Try.pinned (OpenSpec.ofChange fnExactCutsMadeWrong)

/-- 'laws.FnExactFiledBlank': WHATEVER THE INPUT: true; the input reads as it did. -/
def fnExactFiledBlankSpec : ChangeSpec := { name := "fnExactFiledBlank", fn := fun _ => fun
  | [d1, d2] => { results := [.lit (.bool true)], args := [d1, d2] }
  | _ => none }
def fnExactFiledBlankRow : OpenClaim := { program := "ytappbclidbgoiaa", sum := "6a7c68b3ba245e038f87f726ebf81635f580777e1600e0d7c9bde283bb9b2832", func := "loop.example/g00947/laws.FnExactFiledBlank", spec := "fnExactFiledBlank", apart := false }
def FnExactFiledBlankSaid : Prop := fnExactFiledBlankRow.holds Try.pinned (OpenSpec.ofChange fnExactFiledBlankSpec)

/-- ITS FALSE NEIGHBOUR: 'it returns false'. Refute it at one input. -/
def fnExactFiledBlankWrong : ChangeSpec := { name := "fnExactFiledBlank", fn := fun _ => fun
  | [d1, d2] => { results := [.lit (.bool false)], args := [d1, d2] }
  | _ => none }
def FnExactFiledBlankWrongFalsely : Prop := fnExactFiledBlankRow.holds Try.pinned (OpenSpec.ofChange fnExactFiledBlankWrong)

/-- 'laws.FnExactIsFinished': WHATEVER THE INPUT: true; the input reads as it did. -/
def fnExactIsFinishedSpec : ChangeSpec := { name := "fnExactIsFinished", fn := fun _ => fun
  | [d1, d2, d3] => { results := [.lit (.bool true)], args := [d1, d2, d3] }
  | _ => none }
def fnExactIsFinishedRow : OpenClaim := { program := "ytappbclidbgoiaa", sum := "6a7c68b3ba245e038f87f726ebf81635f580777e1600e0d7c9bde283bb9b2832", func := "loop.example/g00947/laws.FnExactIsFinished", spec := "fnExactIsFinished", apart := false }
def FnExactIsFinishedSaid : Prop := fnExactIsFinishedRow.holds Try.pinned (OpenSpec.ofChange fnExactIsFinishedSpec)

/-- ITS FALSE NEIGHBOUR: 'it returns false'. Refute it at one input. -/
def fnExactIsFinishedWrong : ChangeSpec := { name := "fnExactIsFinished", fn := fun _ => fun
  | [d1, d2, d3] => { results := [.lit (.bool false)], args := [d1, d2, d3] }
  | _ => none }
def FnExactIsFinishedWrongFalsely : Prop := fnExactIsFinishedRow.holds Try.pinned (OpenSpec.ofChange fnExactIsFinishedWrong)

/-- 'laws.FnExactSpoiltChambers': WHATEVER THE INPUT: true; the input reads as it did. -/
def fnExactSpoiltChambersSpec : ChangeSpec := { name := "fnExactSpoiltChambers", fn := fun _ => fun
  | [d1, d2, d3] => { results := [.lit (.bool true)], args := [d1, d2, d3] }
  | _ => none }
def fnExactSpoiltChambersRow : OpenClaim := { program := "ytappbclidbgoiaa", sum := "6a7c68b3ba245e038f87f726ebf81635f580777e1600e0d7c9bde283bb9b2832", func := "loop.example/g00947/laws.FnExactSpoiltChambers", spec := "fnExactSpoiltChambers", apart := false }
def FnExactSpoiltChambersSaid : Prop := fnExactSpoiltChambersRow.holds Try.pinned (OpenSpec.ofChange fnExactSpoiltChambersSpec)

/-- ITS FALSE NEIGHBOUR: 'it returns false'. Refute it at one input. -/
def fnExactSpoiltChambersWrong : ChangeSpec := { name := "fnExactSpoiltChambers", fn := fun _ => fun
  | [d1, d2, d3] => { results := [.lit (.bool false)], args := [d1, d2, d3] }
  | _ => none }
def FnExactSpoiltChambersWrongFalsely : Prop := fnExactSpoiltChambersRow.holds Try.pinned (OpenSpec.ofChange fnExactSpoiltChambersWrong)

/-- 'laws.FnExactTurnsNeeded': WHATEVER THE INPUT: true; the input reads as it did. -/
def fnExactTurnsNeededSpec : ChangeSpec := { name := "fnExactTurnsNeeded", fn := fun _ => fun
  | [d1, d2, d3] => { results := [.lit (.bool true)], args := [d1, d2, d3] }
  | _ => none }
def fnExactTurnsNeededRow : OpenClaim := { program := "ytappbclidbgoiaa", sum := "6a7c68b3ba245e038f87f726ebf81635f580777e1600e0d7c9bde283bb9b2832", func := "loop.example/g00947/laws.FnExactTurnsNeeded", spec := "fnExactTurnsNeeded", apart := false }
def FnExactTurnsNeededSaid : Prop := fnExactTurnsNeededRow.holds Try.pinned (OpenSpec.ofChange fnExactTurnsNeededSpec)

/-- ITS FALSE NEIGHBOUR: 'it returns false'. Refute it at one input. -/
def fnExactTurnsNeededWrong : ChangeSpec := { name := "fnExactTurnsNeeded", fn := fun _ => fun
  | [d1, d2, d3] => { results := [.lit (.bool false)], args := [d1, d2, d3] }
  | _ => none }
def FnExactTurnsNeededWrongFalsely : Prop := fnExactTurnsNeededRow.holds Try.pinned (OpenSpec.ofChange fnExactTurnsNeededWrong)

/-- 'laws.FnExactMarksOf': WHATEVER THE INPUT: true; the input reads as it did. -/
def fnExactMarksOfSpec : ChangeSpec := { name := "fnExactMarksOf", fn := fun _ => fun
  | [d1, d2, d3] => { results := [.lit (.bool true)], args := [d1, d2, d3] }
  | _ => none }
def fnExactMarksOfRow : OpenClaim := { program := "ytappbclidbgoiaa", sum := "6a7c68b3ba245e038f87f726ebf81635f580777e1600e0d7c9bde283bb9b2832", func := "loop.example/g00947/laws.FnExactMarksOf", spec := "fnExactMarksOf", apart := false }
def FnExactMarksOfSaid : Prop := fnExactMarksOfRow.holds Try.pinned (OpenSpec.ofChange fnExactMarksOfSpec)

/-- ITS FALSE NEIGHBOUR: 'it returns false'. Refute it at one input. -/
def fnExactMarksOfWrong : ChangeSpec := { name := "fnExactMarksOf", fn := fun _ => fun
  | [d1, d2, d3] => { results := [.lit (.bool false)], args := [d1, d2, d3] }
  | _ => none }
def FnExactMarksOfWrongFalsely : Prop := fnExactMarksOfRow.holds Try.pinned (OpenSpec.ofChange fnExactMarksOfWrong)

/-- 'laws.FnExactBlankAfter': WHATEVER THE INPUT: true; the input reads as it did. -/
def fnExactBlankAfterSpec : ChangeSpec := { name := "fnExactBlankAfter", fn := fun _ => fun
  | [d1, d2, d3, d4] => { results := [.lit (.bool true)], args := [d1, d2, d3, d4] }
  | _ => none }
def fnExactBlankAfterRow : OpenClaim := { program := "ytappbclidbgoiaa", sum := "6a7c68b3ba245e038f87f726ebf81635f580777e1600e0d7c9bde283bb9b2832", func := "loop.example/g00947/laws.FnExactBlankAfter", spec := "fnExactBlankAfter", apart := false }
def FnExactBlankAfterSaid : Prop := fnExactBlankAfterRow.holds Try.pinned (OpenSpec.ofChange fnExactBlankAfterSpec)

/-- ITS FALSE NEIGHBOUR: 'it returns false'. Refute it at one input. -/
def fnExactBlankAfterWrong : ChangeSpec := { name := "fnExactBlankAfter", fn := fun _ => fun
  | [d1, d2, d3, d4] => { results := [.lit (.bool false)], args := [d1, d2, d3, d4] }
  | _ => none }
def FnExactBlankAfterWrongFalsely : Prop := fnExactBlankAfterRow.holds Try.pinned (OpenSpec.ofChange fnExactBlankAfterWrong)

/-- 'laws.FnExactFileOnce': WHATEVER THE INPUT: true; the input reads as it did. -/
def fnExactFileOnceSpec : ChangeSpec := { name := "fnExactFileOnce", fn := fun _ => fun
  | [d1, d2, d3, d4] => { results := [.lit (.bool true)], args := [d1, d2, d3, d4] }
  | _ => none }
def fnExactFileOnceRow : OpenClaim := { program := "ytappbclidbgoiaa", sum := "6a7c68b3ba245e038f87f726ebf81635f580777e1600e0d7c9bde283bb9b2832", func := "loop.example/g00947/laws.FnExactFileOnce", spec := "fnExactFileOnce", apart := false }
def FnExactFileOnceSaid : Prop := fnExactFileOnceRow.holds Try.pinned (OpenSpec.ofChange fnExactFileOnceSpec)

/-- ITS FALSE NEIGHBOUR: 'it returns false'. Refute it at one input. -/
def fnExactFileOnceWrong : ChangeSpec := { name := "fnExactFileOnce", fn := fun _ => fun
  | [d1, d2, d3, d4] => { results := [.lit (.bool false)], args := [d1, d2, d3, d4] }
  | _ => none }
def FnExactFileOnceWrongFalsely : Prop := fnExactFileOnceRow.holds Try.pinned (OpenSpec.ofChange fnExactFileOnceWrong)

/-- 'laws.FnImpressions': WHATEVER THE INPUT: true; the input reads as it did. -/
def fnImpressionsSpec : ChangeSpec := { name := "fnImpressions", fn := fun _ => fun
  | [d] => { results := [.lit (.bool true)], args := [d] }
  | _ => none }
def fnImpressionsRow : OpenClaim := { program := "ytappbclidbgoiaa", sum := "6a7c68b3ba245e038f87f726ebf81635f580777e1600e0d7c9bde283bb9b2832", func := "loop.example/g00947/laws.FnImpressions", spec := "fnImpressions", recurses := true, apart := false }
def FnImpressionsSaid : Prop := fnImpressionsRow.holds Try.pinned (OpenSpec.ofChange fnImpressionsSpec)

/-- ITS FALSE NEIGHBOUR: 'it returns false'. Refute it at one input. -/
def fnImpressionsWrong : ChangeSpec := { name := "fnImpressions", fn := fun _ => fun
  | [d] => { results := [.lit (.bool false)], args := [d] }
  | _ => none }
def FnImpressionsWrongFalsely : Prop := fnImpressionsRow.holds Try.pinned (OpenSpec.ofChange fnImpressionsWrong)

/-- 'laws.FnMarks': WHATEVER THE INPUT: true; the input reads as it did. -/
def fnMarksSpec : ChangeSpec := { name := "fnMarks", fn := fun _ => fun
  | [d] => { results := [.lit (.bool true)], args := [d] }
  | _ => none }
def fnMarksRow : OpenClaim := { program := "ytappbclidbgoiaa", sum := "6a7c68b3ba245e038f87f726ebf81635f580777e1600e0d7c9bde283bb9b2832", func := "loop.example/g00947/laws.FnMarks", spec := "fnMarks", recurses := true, apart := false }
def FnMarksSaid : Prop := fnMarksRow.holds Try.pinned (OpenSpec.ofChange fnMarksSpec)

/-- ITS FALSE NEIGHBOUR: 'it returns false'. Refute it at one input. -/
def fnMarksWrong : ChangeSpec := { name := "fnMarks", fn := fun _ => fun
  | [d] => { results := [.lit (.bool false)], args := [d] }
  | _ => none }
def FnMarksWrongFalsely : Prop := fnMarksRow.holds Try.pinned (OpenSpec.ofChange fnMarksWrong)

/- THE SECOND FORM. 'bulk': how many values and letters a reading holds, each counted each time it is reached (what is shared counts as often as it is met; a slice's spare places count too). A statement '..UptoSaid' is the law's where the arguments, and the package variables that the reading takes, are together of bulk at most 1048576: NARROWER than '..Said'. Prove '..Said' where nothing that the law and all that it calls make is longer than what came in: it says more and counts as full. Else prove '..UptoSaid'. A law counts once. -/
mutual
def uptoBulk {H : Type} : DataW H → Nat
  | .lit (.string bytes) => bytes.length + 1
  | .lit _ => 1
  | .nil => 1
  | .ptr d => uptoBulk d + 1
  | .slice elems spare => uptoBulkAll elems + uptoBulkAll spare + 1
  | .agg parts => uptoBulkAll parts + 1
  | .iface _ d => uptoBulk d + 1
  | .map entries => uptoBulkEntries entries + 1
  | .held _ => 1
def uptoBulkAll {H : Type} : List (DataW H) → Nat
  | [] => 0
  | d :: r => uptoBulk d + uptoBulkAll r
def uptoBulkEntries {H : Type} : List (Lit × DataW H) → Nat
  | [] => 0
  | x :: r => uptoBulkEntry x + uptoBulkEntries r
def uptoBulkEntry {H : Type} : Lit × DataW H → Nat
  | (.string bytes, d) => bytes.length + uptoBulk d + 1
  | (_, d) => uptoBulk d + 1
 end
def uptoSmall : (H : Type) → List (DataW H) → Bool := fun _ ds => decide (uptoBulkAll ds ≤ 1048576)
def OpenSpec.upto (s : _root_.Go.ChangeSpec) : _root_.Go.OpenSpec := { _root_.Go.OpenSpec.ofChange s with cond := some uptoSmall }

/-- 'laws.FnExactCutsMade', WHERE WHAT IT READS IS OF BULK AT MOST 1048576: true; the input reads as it did. -/
def fnExactCutsMadeUptoRow : OpenClaim := { program := "ytappbclidbgoiaa", sum := "6a7c68b3ba245e038f87f726ebf81635f580777e1600e0d7c9bde283bb9b2832", func := "loop.example/g00947/laws.FnExactCutsMade", spec := "fnExactCutsMade", apart := false, narrowed := true }
def FnExactCutsMadeUptoSaid : Prop := fnExactCutsMadeUptoRow.holds Try.pinned (OpenSpec.upto fnExactCutsMadeSpec)

/-- 'laws.FnExactFiledBlank', WHERE WHAT IT READS IS OF BULK AT MOST 1048576: true; the input reads as it did. -/
def fnExactFiledBlankUptoRow : OpenClaim := { program := "ytappbclidbgoiaa", sum := "6a7c68b3ba245e038f87f726ebf81635f580777e1600e0d7c9bde283bb9b2832", func := "loop.example/g00947/laws.FnExactFiledBlank", spec := "fnExactFiledBlank", apart := false, narrowed := true }
def FnExactFiledBlankUptoSaid : Prop := fnExactFiledBlankUptoRow.holds Try.pinned (OpenSpec.upto fnExactFiledBlankSpec)

/-- 'laws.FnExactIsFinished', WHERE WHAT IT READS IS OF BULK AT MOST 1048576: true; the input reads as it did. -/
def fnExactIsFinishedUptoRow : OpenClaim := { program := "ytappbclidbgoiaa", sum := "6a7c68b3ba245e038f87f726ebf81635f580777e1600e0d7c9bde283bb9b2832", func := "loop.example/g00947/laws.FnExactIsFinished", spec := "fnExactIsFinished", apart := false, narrowed := true }
def FnExactIsFinishedUptoSaid : Prop := fnExactIsFinishedUptoRow.holds Try.pinned (OpenSpec.upto fnExactIsFinishedSpec)

/-- 'laws.FnExactSpoiltChambers', WHERE WHAT IT READS IS OF BULK AT MOST 1048576: true; the input reads as it did. -/
def fnExactSpoiltChambersUptoRow : OpenClaim := { program := "ytappbclidbgoiaa", sum := "6a7c68b3ba245e038f87f726ebf81635f580777e1600e0d7c9bde283bb9b2832", func := "loop.example/g00947/laws.FnExactSpoiltChambers", spec := "fnExactSpoiltChambers", apart := false, narrowed := true }
def FnExactSpoiltChambersUptoSaid : Prop := fnExactSpoiltChambersUptoRow.holds Try.pinned (OpenSpec.upto fnExactSpoiltChambersSpec)

/-- 'laws.FnExactTurnsNeeded', WHERE WHAT IT READS IS OF BULK AT MOST 1048576: true; the input reads as it did. -/
def fnExactTurnsNeededUptoRow : OpenClaim := { program := "ytappbclidbgoiaa", sum := "6a7c68b3ba245e038f87f726ebf81635f580777e1600e0d7c9bde283bb9b2832", func := "loop.example/g00947/laws.FnExactTurnsNeeded", spec := "fnExactTurnsNeeded", apart := false, narrowed := true }
def FnExactTurnsNeededUptoSaid : Prop := fnExactTurnsNeededUptoRow.holds Try.pinned (OpenSpec.upto fnExactTurnsNeededSpec)

/-- 'laws.FnExactMarksOf', WHERE WHAT IT READS IS OF BULK AT MOST 1048576: true; the input reads as it did. -/
def fnExactMarksOfUptoRow : OpenClaim := { program := "ytappbclidbgoiaa", sum := "6a7c68b3ba245e038f87f726ebf81635f580777e1600e0d7c9bde283bb9b2832", func := "loop.example/g00947/laws.FnExactMarksOf", spec := "fnExactMarksOf", apart := false, narrowed := true }
def FnExactMarksOfUptoSaid : Prop := fnExactMarksOfUptoRow.holds Try.pinned (OpenSpec.upto fnExactMarksOfSpec)

/-- 'laws.FnExactBlankAfter', WHERE WHAT IT READS IS OF BULK AT MOST 1048576: true; the input reads as it did. -/
def fnExactBlankAfterUptoRow : OpenClaim := { program := "ytappbclidbgoiaa", sum := "6a7c68b3ba245e038f87f726ebf81635f580777e1600e0d7c9bde283bb9b2832", func := "loop.example/g00947/laws.FnExactBlankAfter", spec := "fnExactBlankAfter", apart := false, narrowed := true }
def FnExactBlankAfterUptoSaid : Prop := fnExactBlankAfterUptoRow.holds Try.pinned (OpenSpec.upto fnExactBlankAfterSpec)

/-- 'laws.FnExactFileOnce', WHERE WHAT IT READS IS OF BULK AT MOST 1048576: true; the input reads as it did. -/
def fnExactFileOnceUptoRow : OpenClaim := { program := "ytappbclidbgoiaa", sum := "6a7c68b3ba245e038f87f726ebf81635f580777e1600e0d7c9bde283bb9b2832", func := "loop.example/g00947/laws.FnExactFileOnce", spec := "fnExactFileOnce", apart := false, narrowed := true }
def FnExactFileOnceUptoSaid : Prop := fnExactFileOnceUptoRow.holds Try.pinned (OpenSpec.upto fnExactFileOnceSpec)

/-- 'laws.FnImpressions', WHERE WHAT IT READS IS OF BULK AT MOST 1048576: true; the input reads as it did. -/
def fnImpressionsUptoRow : OpenClaim := { program := "ytappbclidbgoiaa", sum := "6a7c68b3ba245e038f87f726ebf81635f580777e1600e0d7c9bde283bb9b2832", func := "loop.example/g00947/laws.FnImpressions", spec := "fnImpressions", recurses := true, apart := false, narrowed := true }
def FnImpressionsUptoSaid : Prop := fnImpressionsUptoRow.holds Try.pinned (OpenSpec.upto fnImpressionsSpec)

/-- 'laws.FnMarks', WHERE WHAT IT READS IS OF BULK AT MOST 1048576: true; the input reads as it did. -/
def fnMarksUptoRow : OpenClaim := { program := "ytappbclidbgoiaa", sum := "6a7c68b3ba245e038f87f726ebf81635f580777e1600e0d7c9bde283bb9b2832", func := "loop.example/g00947/laws.FnMarks", spec := "fnMarks", recurses := true, apart := false, narrowed := true }
def FnMarksUptoSaid : Prop := fnMarksUptoRow.holds Try.pinned (OpenSpec.upto fnMarksSpec)

end Rows
end Go.Proofs.Ytappbclidbgoiaa
