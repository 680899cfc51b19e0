/-
  No cell of these rows narrows 'for every input' (looked for: loops, veiled, ifaces, maps, wideKeys, modest, calm, conditions, laid).
  DERIVED. THE GIVEN ROWS OF THIS SEAT. 9 by the template 'for every input the law returns true; each argument reads behind the call as it read before'; 0 by the template 'total and deterministic' (their statements: YtponkoaomcgohaaTotals.lean).
  GIVEN WITH THE SEED: the statements are not yours to turn. If you find one false, say at which input.
  Laid BY PROGRAM, IN A SANDBOX (cutbox-rows.mjs): the forced cells as the released guide's own fill.sh prints them over the translation 303bb33ed12ede28… (all of the seat's roots in one cut). By AI agents, Wed Nov 11 2026. No macro, syntax, notation, axiom, sorry.
-/
import Derived.Test.YtponkoaomcgohaaChecked
import GoSem.Claim
import GoSem.ClaimJoined
import GoSem.ClaimMapViews
import Derived.JoinedTies
import Derived.KernelRfl
namespace Go.Proofs.Ytponkoaomcgohaa
/- THE CELL 'sum', in the pinned program and in every row, IS THE sha256 OF THE DUMP (.gsa) THAT YtponkoaomcgohaaProg.lean LOADS. Nothing in Lean hashes anything: it is a label: what it is worth is what the hold of that sum in a sandbox is worth. -/
noncomputable def Try.pinned : Pinned := { name := "ytponkoaomcgohaa", sum := "303bb33ed12ede283104475ef487018b1ef8e8625b9b53d7bdfbce140bc33415", checked := Try.checked }
namespace Rows
def none {H : Type} : Left H := { results := [], args := [] }

/-- 'laws.FnExactBindingChamber': WHATEVER THE INPUT: true; the input reads as it did. -/
def fnExactBindingChamberSpec : ChangeSpec := { name := "fnExactBindingChamber", fn := fun _ => fun
  | [d1, d2, d3, d4] => { results := [.lit (.bool true)], args := [d1, d2, d3, d4] }
  | _ => none }
def fnExactBindingChamberRow : OpenClaim := { program := "ytponkoaomcgohaa", sum := "303bb33ed12ede283104475ef487018b1ef8e8625b9b53d7bdfbce140bc33415", func := "loop.example/g00947/laws.FnExactBindingChamber", spec := "fnExactBindingChamber", recurses := true, apart := false }
def FnExactBindingChamberSaid : Prop := fnExactBindingChamberRow.holds Try.pinned (OpenSpec.ofChange fnExactBindingChamberSpec)

/-- ITS FALSE NEIGHBOUR: 'it returns false'. Refute it at one input. -/
def fnExactBindingChamberWrong : ChangeSpec := { name := "fnExactBindingChamber", fn := fun _ => fun
  | [d1, d2, d3, d4] => { results := [.lit (.bool false)], args := [d1, d2, d3, d4] }
  | _ => none }
def FnExactBindingChamberWrongFalsely : Prop := fnExactBindingChamberRow.holds Try.pinned (OpenSpec.ofChange fnExactBindingChamberWrong)

/-- 'laws.FnExactBlindPicks': WHATEVER THE INPUT: true; the input reads as it did. -/
def fnExactBlindPicksSpec : ChangeSpec := { name := "fnExactBlindPicks", fn := fun _ => fun
  | [d1, d2, d3] => { results := [.lit (.bool true)], args := [d1, d2, d3] }
  | _ => none }
def fnExactBlindPicksRow : OpenClaim := { program := "ytponkoaomcgohaa", sum := "303bb33ed12ede283104475ef487018b1ef8e8625b9b53d7bdfbce140bc33415", func := "loop.example/g00947/laws.FnExactBlindPicks", spec := "fnExactBlindPicks", recurses := true, apart := false }
def FnExactBlindPicksSaid : Prop := fnExactBlindPicksRow.holds Try.pinned (OpenSpec.ofChange fnExactBlindPicksSpec)

/-- ITS FALSE NEIGHBOUR: 'it returns false'. Refute it at one input. -/
def fnExactBlindPicksWrong : ChangeSpec := { name := "fnExactBlindPicks", fn := fun _ => fun
  | [d1, d2, d3] => { results := [.lit (.bool false)], args := [d1, d2, d3] }
  | _ => none }
def FnExactBlindPicksWrongFalsely : Prop := fnExactBlindPicksRow.holds Try.pinned (OpenSpec.ofChange fnExactBlindPicksWrong)

/-- 'laws.FnExactFewestPicks': WHATEVER THE INPUT: true; the input reads as it did. -/
def fnExactFewestPicksSpec : ChangeSpec := { name := "fnExactFewestPicks", fn := fun _ => fun
  | [d1, d2, d3] => { results := [.lit (.bool true)], args := [d1, d2, d3] }
  | _ => none }
def fnExactFewestPicksRow : OpenClaim := { program := "ytponkoaomcgohaa", sum := "303bb33ed12ede283104475ef487018b1ef8e8625b9b53d7bdfbce140bc33415", func := "loop.example/g00947/laws.FnExactFewestPicks", spec := "fnExactFewestPicks", recurses := true, apart := false }
def FnExactFewestPicksSaid : Prop := fnExactFewestPicksRow.holds Try.pinned (OpenSpec.ofChange fnExactFewestPicksSpec)

/-- ITS FALSE NEIGHBOUR: 'it returns false'. Refute it at one input. -/
def fnExactFewestPicksWrong : ChangeSpec := { name := "fnExactFewestPicks", fn := fun _ => fun
  | [d1, d2, d3] => { results := [.lit (.bool false)], args := [d1, d2, d3] }
  | _ => none }
def FnExactFewestPicksWrongFalsely : Prop := fnExactFewestPicksRow.holds Try.pinned (OpenSpec.ofChange fnExactFewestPicksWrong)

/-- 'laws.FnExactPickOnce': WHATEVER THE INPUT: true; the input reads as it did. -/
def fnExactPickOnceSpec : ChangeSpec := { name := "fnExactPickOnce", fn := fun _ => fun
  | [d1, d2, d3, d4, d5] => { results := [.lit (.bool true)], args := [d1, d2, d3, d4, d5] }
  | _ => none }
def fnExactPickOnceRow : OpenClaim := { program := "ytponkoaomcgohaa", sum := "303bb33ed12ede283104475ef487018b1ef8e8625b9b53d7bdfbce140bc33415", func := "loop.example/g00947/laws.FnExactPickOnce", spec := "fnExactPickOnce", recurses := true, apart := false }
def FnExactPickOnceSaid : Prop := fnExactPickOnceRow.holds Try.pinned (OpenSpec.ofChange fnExactPickOnceSpec)

/-- ITS FALSE NEIGHBOUR: 'it returns false'. Refute it at one input. -/
def fnExactPickOnceWrong : ChangeSpec := { name := "fnExactPickOnce", fn := fun _ => fun
  | [d1, d2, d3, d4, d5] => { results := [.lit (.bool false)], args := [d1, d2, d3, d4, d5] }
  | _ => none }
def FnExactPickOnceWrongFalsely : Prop := fnExactPickOnceRow.holds Try.pinned (OpenSpec.ofChange fnExactPickOnceWrong)

/-- 'laws.FnExactFallsOf': WHATEVER THE INPUT: true; the input reads as it did. -/
def fnExactFallsOfSpec : ChangeSpec := { name := "fnExactFallsOf", fn := fun _ => fun
  | [d1, d2, d3, d4] => { results := [.lit (.bool true)], args := [d1, d2, d3, d4] }
  | _ => none }
def fnExactFallsOfRow : OpenClaim := { program := "ytponkoaomcgohaa", sum := "303bb33ed12ede283104475ef487018b1ef8e8625b9b53d7bdfbce140bc33415", func := "loop.example/g00947/laws.FnExactFallsOf", spec := "fnExactFallsOf", recurses := true, apart := false }
def FnExactFallsOfSaid : Prop := fnExactFallsOfRow.holds Try.pinned (OpenSpec.ofChange fnExactFallsOfSpec)

/-- ITS FALSE NEIGHBOUR: 'it returns false'. Refute it at one input. -/
def fnExactFallsOfWrong : ChangeSpec := { name := "fnExactFallsOf", fn := fun _ => fun
  | [d1, d2, d3, d4] => { results := [.lit (.bool false)], args := [d1, d2, d3, d4] }
  | _ => none }
def FnExactFallsOfWrongFalsely : Prop := fnExactFallsOfRow.holds Try.pinned (OpenSpec.ofChange fnExactFallsOfWrong)

/-- 'laws.FnExactKeyFromPicks': WHATEVER THE INPUT: true; the input reads as it did. -/
def fnExactKeyFromPicksSpec : ChangeSpec := { name := "fnExactKeyFromPicks", fn := fun _ => fun
  | [d1, d2, d3, d4] => { results := [.lit (.bool true)], args := [d1, d2, d3, d4] }
  | _ => none }
def fnExactKeyFromPicksRow : OpenClaim := { program := "ytponkoaomcgohaa", sum := "303bb33ed12ede283104475ef487018b1ef8e8625b9b53d7bdfbce140bc33415", func := "loop.example/g00947/laws.FnExactKeyFromPicks", spec := "fnExactKeyFromPicks", recurses := true, apart := false }
def FnExactKeyFromPicksSaid : Prop := fnExactKeyFromPicksRow.holds Try.pinned (OpenSpec.ofChange fnExactKeyFromPicksSpec)

/-- ITS FALSE NEIGHBOUR: 'it returns false'. Refute it at one input. -/
def fnExactKeyFromPicksWrong : ChangeSpec := { name := "fnExactKeyFromPicks", fn := fun _ => fun
  | [d1, d2, d3, d4] => { results := [.lit (.bool false)], args := [d1, d2, d3, d4] }
  | _ => none }
def FnExactKeyFromPicksWrongFalsely : Prop := fnExactKeyFromPicksRow.holds Try.pinned (OpenSpec.ofChange fnExactKeyFromPicksWrong)

/-- 'laws.FnExactPickAll': WHATEVER THE INPUT: true; the input reads as it did. -/
def fnExactPickAllSpec : ChangeSpec := { name := "fnExactPickAll", fn := fun _ => fun
  | [d1, d2, d3, d4] => { results := [.lit (.bool true)], args := [d1, d2, d3, d4] }
  | _ => none }
def fnExactPickAllRow : OpenClaim := { program := "ytponkoaomcgohaa", sum := "303bb33ed12ede283104475ef487018b1ef8e8625b9b53d7bdfbce140bc33415", func := "loop.example/g00947/laws.FnExactPickAll", spec := "fnExactPickAll", recurses := true, apart := false }
def FnExactPickAllSaid : Prop := fnExactPickAllRow.holds Try.pinned (OpenSpec.ofChange fnExactPickAllSpec)

/-- ITS FALSE NEIGHBOUR: 'it returns false'. Refute it at one input. -/
def fnExactPickAllWrong : ChangeSpec := { name := "fnExactPickAll", fn := fun _ => fun
  | [d1, d2, d3, d4] => { results := [.lit (.bool false)], args := [d1, d2, d3, d4] }
  | _ => none }
def FnExactPickAllWrongFalsely : Prop := fnExactPickAllRow.holds Try.pinned (OpenSpec.ofChange fnExactPickAllWrong)

/-- 'laws.FnExactLostRows': WHATEVER THE INPUT: true; the input reads as it did. -/
def fnExactLostRowsSpec : ChangeSpec := { name := "fnExactLostRows", fn := fun _ => fun
  | [d] => { results := [.lit (.bool true)], args := [d] }
  | _ => none }
def fnExactLostRowsRow : OpenClaim := { program := "ytponkoaomcgohaa", sum := "303bb33ed12ede283104475ef487018b1ef8e8625b9b53d7bdfbce140bc33415", func := "loop.example/g00947/laws.FnExactLostRows", spec := "fnExactLostRows", recurses := true, apart := false }
def FnExactLostRowsSaid : Prop := fnExactLostRowsRow.holds Try.pinned (OpenSpec.ofChange fnExactLostRowsSpec)

/-- ITS FALSE NEIGHBOUR: 'it returns false'. Refute it at one input. -/
def fnExactLostRowsWrong : ChangeSpec := { name := "fnExactLostRows", fn := fun _ => fun
  | [d] => { results := [.lit (.bool false)], args := [d] }
  | _ => none }
def FnExactLostRowsWrongFalsely : Prop := fnExactLostRowsRow.holds Try.pinned (OpenSpec.ofChange fnExactLostRowsWrong)

/-- 'laws.FnExactPersonDoors': WHATEVER THE INPUT: true; the input reads as it did. -/
def fnExactPersonDoorsSpec : ChangeSpec := { name := "fnExactPersonDoors", fn := fun _ => fun
  | [d1, d2, d3] => { results := [.lit (.bool true)], args := [d1, d2, d3] }
  | _ => none }
def fnExactPersonDoorsRow : OpenClaim := { program := "ytponkoaomcgohaa", sum := "303bb33ed12ede283104475ef487018b1ef8e8625b9b53d7bdfbce140bc33415", func := "loop.example/g00947/laws.FnExactPersonDoors", spec := "fnExactPersonDoors", unfollowed := true, recurses := true, apart := false }
def FnExactPersonDoorsSaid : Prop := fnExactPersonDoorsRow.holds Try.pinned (OpenSpec.ofChange fnExactPersonDoorsSpec)

/-- ITS FALSE NEIGHBOUR: 'it returns false'. Refute it at one input. -/
def fnExactPersonDoorsWrong : ChangeSpec := { name := "fnExactPersonDoors", fn := fun _ => fun
  | [d1, d2, d3] => { results := [.lit (.bool false)], args := [d1, d2, d3] }
  | _ => none }
def FnExactPersonDoorsWrongFalsely : Prop := fnExactPersonDoorsRow.holds Try.pinned (OpenSpec.ofChange fnExactPersonDoorsWrong)

/- THE SECOND FORM. 'bulk': how many values and letters a reading holds, each counted each time it is reached (what is shared counts as often as it is met; a slice's spare places count too). A statement '..UptoSaid' is the law's where the arguments, and the package variables that the reading takes, are together of bulk at most 1048576: NARROWER than '..Said'. Prove '..Said' where nothing that the law and all that it calls make is longer than what came in: it says more and counts as full. Else prove '..UptoSaid'. A law counts once. -/
mutual
def uptoBulk {H : Type} : DataW H → Nat
  | .lit (.string bytes) => bytes.length + 1
  | .lit _ => 1
  | .nil => 1
  | .ptr d => uptoBulk d + 1
  | .slice elems spare => uptoBulkAll elems + uptoBulkAll spare + 1
  | .agg parts => uptoBulkAll parts + 1
  | .iface _ d => uptoBulk d + 1
  | .map entries => uptoBulkEntries entries + 1
  | .held _ => 1
def uptoBulkAll {H : Type} : List (DataW H) → Nat
  | [] => 0
  | d :: r => uptoBulk d + uptoBulkAll r
def uptoBulkEntries {H : Type} : List (Lit × DataW H) → Nat
  | [] => 0
  | x :: r => uptoBulkEntry x + uptoBulkEntries r
def uptoBulkEntry {H : Type} : Lit × DataW H → Nat
  | (.string bytes, d) => bytes.length + uptoBulk d + 1
  | (_, d) => uptoBulk d + 1
 end
def uptoSmall : (H : Type) → List (DataW H) → Bool := fun _ ds => decide (uptoBulkAll ds ≤ 1048576)
def OpenSpec.upto (s : _root_.Go.ChangeSpec) : _root_.Go.OpenSpec := { _root_.Go.OpenSpec.ofChange s with cond := some uptoSmall }

/-- 'laws.FnExactBindingChamber', WHERE WHAT IT READS IS OF BULK AT MOST 1048576: true; the input reads as it did. -/
def fnExactBindingChamberUptoRow : OpenClaim := { program := "ytponkoaomcgohaa", sum := "303bb33ed12ede283104475ef487018b1ef8e8625b9b53d7bdfbce140bc33415", func := "loop.example/g00947/laws.FnExactBindingChamber", spec := "fnExactBindingChamber", recurses := true, apart := false, narrowed := true }
def FnExactBindingChamberUptoSaid : Prop := fnExactBindingChamberUptoRow.holds Try.pinned (OpenSpec.upto fnExactBindingChamberSpec)

/-- 'laws.FnExactBlindPicks', WHERE WHAT IT READS IS OF BULK AT MOST 1048576: true; the input reads as it did. -/
def fnExactBlindPicksUptoRow : OpenClaim := { program := "ytponkoaomcgohaa", sum := "303bb33ed12ede283104475ef487018b1ef8e8625b9b53d7bdfbce140bc33415", func := "loop.example/g00947/laws.FnExactBlindPicks", spec := "fnExactBlindPicks", recurses := true, apart := false, narrowed := true }
def FnExactBlindPicksUptoSaid : Prop := fnExactBlindPicksUptoRow.holds Try.pinned (OpenSpec.upto fnExactBlindPicksSpec)

/-- 'laws.FnExactFewestPicks', WHERE WHAT IT READS IS OF BULK AT MOST 1048576: true; the input reads as it did. -/
def fnExactFewestPicksUptoRow : OpenClaim := { program := "ytponkoaomcgohaa", sum := "303bb33ed12ede283104475ef487018b1ef8e8625b9b53d7bdfbce140bc33415", func := "loop.example/g00947/laws.FnExactFewestPicks", spec := "fnExactFewestPicks", recurses := true, apart := false, narrowed := true }
def FnExactFewestPicksUptoSaid : Prop := fnExactFewestPicksUptoRow.holds Try.pinned (OpenSpec.upto fnExactFewestPicksSpec)

/-- 'laws.FnExactPickOnce', WHERE WHAT IT READS IS OF BULK AT MOST 1048576: true; the input reads as it did. -/
def fnExactPickOnceUptoRow : OpenClaim := { program := "ytponkoaomcgohaa", sum := "303bb33ed12ede283104475ef487018b1ef8e8625b9b53d7bdfbce140bc33415", func := "loop.example/g00947/laws.FnExactPickOnce", spec := "fnExactPickOnce", recurses := true, apart := false, narrowed := true }
def FnExactPickOnceUptoSaid : Prop := fnExactPickOnceUptoRow.holds Try.pinned (OpenSpec.upto fnExactPickOnceSpec)

/-- 'laws.FnExactFallsOf', WHERE WHAT IT READS IS OF BULK AT MOST 1048576: true; the input reads as it did. -/
def fnExactFallsOfUptoRow : OpenClaim := { program := "ytponkoaomcgohaa", sum := "303bb33ed12ede283104475ef487018b1ef8e8625b9b53d7bdfbce140bc33415", func := "loop.example/g00947/laws.FnExactFallsOf", spec := "fnExactFallsOf", recurses := true, apart := false, narrowed := true }
def FnExactFallsOfUptoSaid : Prop := fnExactFallsOfUptoRow.holds Try.pinned (OpenSpec.upto fnExactFallsOfSpec)

/-- 'laws.FnExactKeyFromPicks', WHERE WHAT IT READS IS OF BULK AT MOST 1048576: true; the input reads as it did. -/
def fnExactKeyFromPicksUptoRow : OpenClaim := { program := "ytponkoaomcgohaa", sum := "303bb33ed12ede283104475ef487018b1ef8e8625b9b53d7bdfbce140bc33415", func := "loop.example/g00947/laws.FnExactKeyFromPicks", spec := "fnExactKeyFromPicks", recurses := true, apart := false, narrowed := true }
def FnExactKeyFromPicksUptoSaid : Prop := fnExactKeyFromPicksUptoRow.holds Try.pinned (OpenSpec.upto fnExactKeyFromPicksSpec)

/-- 'laws.FnExactPickAll', WHERE WHAT IT READS IS OF BULK AT MOST 1048576: true; the input reads as it did. -/
def fnExactPickAllUptoRow : OpenClaim := { program := "ytponkoaomcgohaa", sum := "303bb33ed12ede283104475ef487018b1ef8e8625b9b53d7bdfbce140bc33415", func := "loop.example/g00947/laws.FnExactPickAll", spec := "fnExactPickAll", recurses := true, apart := false, narrowed := true }
def FnExactPickAllUptoSaid : Prop := fnExactPickAllUptoRow.holds Try.pinned (OpenSpec.upto fnExactPickAllSpec)

/-- 'laws.FnExactLostRows', WHERE WHAT IT READS IS OF BULK AT MOST 1048576: true; the input reads as it did. -/
def fnExactLostRowsUptoRow : OpenClaim := { program := "ytponkoaomcgohaa", sum := "303bb33ed12ede283104475ef487018b1ef8e8625b9b53d7bdfbce140bc33415", func := "loop.example/g00947/laws.FnExactLostRows", spec := "fnExactLostRows", recurses := true, apart := false, narrowed := true }
def FnExactLostRowsUptoSaid : Prop := fnExactLostRowsUptoRow.holds Try.pinned (OpenSpec.upto fnExactLostRowsSpec)

/-- 'laws.FnExactPersonDoors', WHERE WHAT IT READS IS OF BULK AT MOST 1048576: true; the input reads as it did. -/
def fnExactPersonDoorsUptoRow : OpenClaim := { program := "ytponkoaomcgohaa", sum := "303bb33ed12ede283104475ef487018b1ef8e8625b9b53d7bdfbce140bc33415", func := "loop.example/g00947/laws.FnExactPersonDoors", spec := "fnExactPersonDoors", unfollowed := true, recurses := true, apart := false, narrowed := true }
def FnExactPersonDoorsUptoSaid : Prop := fnExactPersonDoorsUptoRow.holds Try.pinned (OpenSpec.upto fnExactPersonDoorsSpec)

end Rows
end Go.Proofs.Ytponkoaomcgohaa
