/-
  DERIVED. GIVEN WITH THE SEED: THE CARDS: each row of YtofpaabacebkkaaGreatDoorRows.lean that lists a variable, with what it lists TIED to the program's text (the seventh form; the later family's looks); each row that meets fmt, with fmt's text TOLD by the authors' own Lean function (tested against real Go, not proved from fmt's source: count such statements apart). THE CARD IS WHAT COUNTS. Prove the row's statement (the work); the ties are given (YtofpaabacebkkaaGreatDoorTie.lean); close each card by the builder's one call (the guide's Derived/Test/ToyasCard.lean, 'card_holds'). Laid BY PROGRAM, IN A SANDBOX (cutbox-door.mjs). By AI agents, Wed Nov 11 2026. No macro, syntax, notation, axiom, sorry.
-/
import Derived.Test.YtofpaabacebkkaaGreatDoorRows
import GoSem.ClaimSeven
namespace Go.Proofs.YtofpaabacebkkaaGreatDoor
namespace Rows

/-- THE TIED CARD OF 'laws.FnExactDeskAfter'. -/
def fnExactDeskAfterCard : Claim7 := { stood := { row := fnExactDeskAfterRow, standIns := [], harness := (true, "8bfe7a4b7f49e28c263f236e77438ae763782905e0d3fd6ca86047051d72047a"), looks := true }, kinds := [], alts := [], laidByText := true, laidKinds := [.data, .data, .data, .data, .sentinel, .sentinel, .pinned], laidTests := true, laidLooks := .later }
def FnExactDeskAfterCardSaid : Prop := Claim7.holds Tryz.pinned (.plain (OpenSpec.ofChange fnExactDeskAfterSpec)) fnExactDeskAfterCard

/-- THE TIED CARD OF 'laws.FnConsoleLines'. -/
def fnConsoleLinesCard : Claim7 := { stood := { row := fnConsoleLinesRow, standIns := [], harness := (true, "8bfe7a4b7f49e28c263f236e77438ae763782905e0d3fd6ca86047051d72047a"), looks := true }, kinds := [], alts := [], laidByText := true, laidKinds := [.data, .data, .data, .data, .sentinel, .sentinel, .pinned], laidTests := true, laidLooks := .later }
def FnConsoleLinesCardSaid : Prop := Claim7.holds Tryz.pinned (.plain (OpenSpec.ofChange fnConsoleLinesSpec)) fnConsoleLinesCard

/-- THE TIED CARD OF 'laws.FnDesks'. -/
def fnDesksCard : Claim7 := { stood := { row := fnDesksRow, standIns := [], harness := (true, "8bfe7a4b7f49e28c263f236e77438ae763782905e0d3fd6ca86047051d72047a"), looks := true }, kinds := [], alts := [], laidByText := true, laidKinds := [.data, .data, .data, .data, .sentinel, .sentinel, .pinned], laidTests := true, laidLooks := .later }
def FnDesksCardSaid : Prop := Claim7.holds Tryz.pinned (.plain (OpenSpec.ofChange fnDesksSpec)) fnDesksCard

/-- THE TIED CARD OF 'laws.FnExactRunConsole'. -/
def fnExactRunConsoleCard : Claim7 := { stood := { row := fnExactRunConsoleRow, standIns := [], harness := (true, "8bfe7a4b7f49e28c263f236e77438ae763782905e0d3fd6ca86047051d72047a"), looks := true }, kinds := [], alts := [], laidByText := true, laidKinds := [.data, .data, .data, .data, .sentinel, .sentinel, .pinned], laidTests := true, laidLooks := .later }
def FnExactRunConsoleCardSaid : Prop := Claim7.holds Tryz.pinned (.plain (OpenSpec.ofChange fnExactRunConsoleSpec)) fnExactRunConsoleCard

/-- THE SECOND FORM's CARD OF 'laws.FnExactDeskAfter'. -/
def fnExactDeskAfterUptoCard : Claim7 := { stood := { row := fnExactDeskAfterUptoRow, standIns := [], harness := (true, "8bfe7a4b7f49e28c263f236e77438ae763782905e0d3fd6ca86047051d72047a"), looks := true }, kinds := [], alts := [], laidByText := true, laidKinds := [.data, .data, .data, .data, .sentinel, .sentinel, .pinned], laidTests := true, laidLooks := .later }
def FnExactDeskAfterUptoCardSaid : Prop := Claim7.holds Tryz.pinned (.plain (OpenSpec.upto fnExactDeskAfterSpec)) fnExactDeskAfterUptoCard

/-- THE SECOND FORM's CARD OF 'laws.FnConsoleLines'. -/
def fnConsoleLinesUptoCard : Claim7 := { stood := { row := fnConsoleLinesUptoRow, standIns := [], harness := (true, "8bfe7a4b7f49e28c263f236e77438ae763782905e0d3fd6ca86047051d72047a"), looks := true }, kinds := [], alts := [], laidByText := true, laidKinds := [.data, .data, .data, .data, .sentinel, .sentinel, .pinned], laidTests := true, laidLooks := .later }
def FnConsoleLinesUptoCardSaid : Prop := Claim7.holds Tryz.pinned (.plain (OpenSpec.upto fnConsoleLinesSpec)) fnConsoleLinesUptoCard

/-- THE SECOND FORM's CARD OF 'laws.FnDesks'. -/
def fnDesksUptoCard : Claim7 := { stood := { row := fnDesksUptoRow, standIns := [], harness := (true, "8bfe7a4b7f49e28c263f236e77438ae763782905e0d3fd6ca86047051d72047a"), looks := true }, kinds := [], alts := [], laidByText := true, laidKinds := [.data, .data, .data, .data, .sentinel, .sentinel, .pinned], laidTests := true, laidLooks := .later }
def FnDesksUptoCardSaid : Prop := Claim7.holds Tryz.pinned (.plain (OpenSpec.upto fnDesksSpec)) fnDesksUptoCard

/-- THE SECOND FORM's CARD OF 'laws.FnExactRunConsole'. -/
def fnExactRunConsoleUptoCard : Claim7 := { stood := { row := fnExactRunConsoleUptoRow, standIns := [], harness := (true, "8bfe7a4b7f49e28c263f236e77438ae763782905e0d3fd6ca86047051d72047a"), looks := true }, kinds := [], alts := [], laidByText := true, laidKinds := [.data, .data, .data, .data, .sentinel, .sentinel, .pinned], laidTests := true, laidLooks := .later }
def FnExactRunConsoleUptoCardSaid : Prop := Claim7.holds Tryz.pinned (.plain (OpenSpec.upto fnExactRunConsoleSpec)) fnExactRunConsoleUptoCard
end Rows
end Go.Proofs.YtofpaabacebkkaaGreatDoor
