/-
  DERIVED. GIVEN WITH THE SEED: THE CARDS: each row of YtnmaeefcjdbpcaaDoorRows.lean that lists a variable, with what it lists TIED to the program's text (the seventh form; the later family's looks); each row that meets fmt, with fmt's text TOLD by the authors' own Lean function (tested against real Go, not proved from fmt's source: count such statements apart). THE CARD IS WHAT COUNTS. Prove the row's statement (the work); the ties are given (YtnmaeefcjdbpcaaDoorTie.lean); close each card by the builder's one call (the guide's Derived/Test/ToyasCard.lean, 'card_holds'). Laid BY PROGRAM, IN A SANDBOX (cutbox-door.mjs). By AI agents, Wed Nov 11 2026. No macro, syntax, notation, axiom, sorry.
-/
import Derived.Test.YtnmaeefcjdbpcaaDoorRows
import GoSem.ClaimSeven
namespace Go.Proofs.YtnmaeefcjdbpcaaDoor
namespace Rows

/-- THE TIED CARD OF 'laws.FnExactJournalText'. -/
def fnExactJournalTextCard : Claim7 := { stood := { row := fnExactJournalTextRow, standIns := [], harness := (true, "33dd56b2fe3914efbf4f6fadd693a7dc8dd0bb8827bc82cc0d25c7e2be45c23e"), looks := true }, kinds := [], alts := [], laidByText := true, laidKinds := [.data, .data, .data], laidTests := true, laidLooks := .later }
def FnExactJournalTextCardSaid : Prop := Claim7.holds Tryd.pinned (.plain (OpenSpec.ofChange fnExactJournalTextSpec)) fnExactJournalTextCard

/-- THE TIED CARD OF 'laws.FnExactLastChain'. -/
def fnExactLastChainCard : Claim7 := { stood := { row := fnExactLastChainRow, standIns := [], harness := (true, "33dd56b2fe3914efbf4f6fadd693a7dc8dd0bb8827bc82cc0d25c7e2be45c23e"), looks := true }, kinds := [], alts := [], laidByText := true, laidKinds := [.data, .data, .data, .data, .sentinel, .sentinel, .pinned], laidTests := true, laidLooks := .later }
def FnExactLastChainCardSaid : Prop := Claim7.holds Tryd.pinned (.plain (OpenSpec.ofChange fnExactLastChainSpec)) fnExactLastChainCard

/-- THE TIED CARD OF 'laws.FnExactEventsBy'. -/
def fnExactEventsByCard : Claim7 := { stood := { row := fnExactEventsByRow, standIns := [], harness := (true, "33dd56b2fe3914efbf4f6fadd693a7dc8dd0bb8827bc82cc0d25c7e2be45c23e"), looks := true }, kinds := [], alts := [], laidByText := true, laidKinds := [.data, .data, .data, .data, .sentinel, .sentinel, .pinned], laidTests := true, laidLooks := .later }
def FnExactEventsByCardSaid : Prop := Claim7.holds Tryd.pinned (.plain (OpenSpec.ofChange fnExactEventsBySpec)) fnExactEventsByCard

/-- THE TIED CARD OF 'laws.FnExactRecoverJournal'. -/
def fnExactRecoverJournalCard : Claim7 := { stood := { row := fnExactRecoverJournalRow, standIns := [], harness := (true, "33dd56b2fe3914efbf4f6fadd693a7dc8dd0bb8827bc82cc0d25c7e2be45c23e"), looks := true }, kinds := [], alts := [], laidByText := true, laidKinds := [.data, .data, .data, .data, .sentinel, .sentinel, .pinned], laidTests := true, laidLooks := .later }
def FnExactRecoverJournalCardSaid : Prop := Claim7.holds Tryd.pinned (.plain (OpenSpec.ofChange fnExactRecoverJournalSpec)) fnExactRecoverJournalCard

/-- THE TIED CARD OF 'laws.FnExactAppendEvent'. -/
def fnExactAppendEventCard : Claim7 := { stood := { row := fnExactAppendEventRow, standIns := [], harness := (true, "33dd56b2fe3914efbf4f6fadd693a7dc8dd0bb8827bc82cc0d25c7e2be45c23e"), looks := true }, kinds := [], alts := [], laidByText := true, laidKinds := [.data, .data, .data, .data, .sentinel, .sentinel, .pinned], laidTests := true, laidLooks := .later }
def FnExactAppendEventCardSaid : Prop := Claim7.holds Tryd.pinned (.plain (OpenSpec.ofChange fnExactAppendEventSpec)) fnExactAppendEventCard

/-- THE TIED CARD OF 'laws.FnExactReadJournal'. -/
def fnExactReadJournalCard : Claim7 := { stood := { row := fnExactReadJournalRow, standIns := [], harness := (true, "33dd56b2fe3914efbf4f6fadd693a7dc8dd0bb8827bc82cc0d25c7e2be45c23e"), looks := true }, kinds := [], alts := [], laidByText := true, laidKinds := [.data, .data, .data, .data, .sentinel, .sentinel, .pinned], laidTests := true, laidLooks := .later }
def FnExactReadJournalCardSaid : Prop := Claim7.holds Tryd.pinned (.plain (OpenSpec.ofChange fnExactReadJournalSpec)) fnExactReadJournalCard

/-- THE TIED CARD OF 'laws.FnJournals'. -/
def fnJournalsCard : Claim7 := { stood := { row := fnJournalsRow, standIns := [], harness := (true, "33dd56b2fe3914efbf4f6fadd693a7dc8dd0bb8827bc82cc0d25c7e2be45c23e"), looks := true }, kinds := [], alts := [], laidByText := true, laidKinds := [.data, .data, .data, .data, .sentinel, .sentinel, .pinned], laidTests := true, laidLooks := .later }
def FnJournalsCardSaid : Prop := Claim7.holds Tryd.pinned (.plain (OpenSpec.ofChange fnJournalsSpec)) fnJournalsCard

/-- THE TIED CARD OF 'laws.FnExactOrderText'. -/
def fnExactOrderTextCard : Claim7 := { stood := { row := fnExactOrderTextRow, standIns := [], harness := (true, "33dd56b2fe3914efbf4f6fadd693a7dc8dd0bb8827bc82cc0d25c7e2be45c23e"), looks := true }, kinds := [], alts := [], laidByText := true, laidKinds := [.data, .data, .data], laidTests := true, laidLooks := .later }
def FnExactOrderTextCardSaid : Prop := Claim7.holds Tryd.pinned (.plain (OpenSpec.ofChange fnExactOrderTextSpec)) fnExactOrderTextCard

/-- THE TIED CARD OF 'laws.FnExactSecretOf'. -/
def fnExactSecretOfCard : Claim7 := { stood := { row := fnExactSecretOfRow, standIns := [], harness := (true, "33dd56b2fe3914efbf4f6fadd693a7dc8dd0bb8827bc82cc0d25c7e2be45c23e"), looks := true }, kinds := [], alts := [], laidByText := true, laidKinds := [.data, .data, .data], laidTests := true, laidLooks := .later }
def FnExactSecretOfCardSaid : Prop := Claim7.holds Tryd.pinned (.plain (OpenSpec.ofChange fnExactSecretOfSpec)) fnExactSecretOfCard

/-- THE TIED CARD OF 'laws.FnExactReadOrder'. -/
def fnExactReadOrderCard : Claim7 := { stood := { row := fnExactReadOrderRow, standIns := [], harness := (true, "33dd56b2fe3914efbf4f6fadd693a7dc8dd0bb8827bc82cc0d25c7e2be45c23e"), looks := true }, kinds := [], alts := [], laidByText := true, laidKinds := [.data, .data, .data, .data, .sentinel, .sentinel, .pinned], laidTests := true, laidLooks := .later }
def FnExactReadOrderCardSaid : Prop := Claim7.holds Tryd.pinned (.plain (OpenSpec.ofChange fnExactReadOrderSpec)) fnExactReadOrderCard

/-- THE SECOND FORM's CARD OF 'laws.FnExactJournalText'. -/
def fnExactJournalTextUptoCard : Claim7 := { stood := { row := fnExactJournalTextUptoRow, standIns := [], harness := (true, "33dd56b2fe3914efbf4f6fadd693a7dc8dd0bb8827bc82cc0d25c7e2be45c23e"), looks := true }, kinds := [], alts := [], laidByText := true, laidKinds := [.data, .data, .data], laidTests := true, laidLooks := .later }
def FnExactJournalTextUptoCardSaid : Prop := Claim7.holds Tryd.pinned (.plain (OpenSpec.upto fnExactJournalTextSpec)) fnExactJournalTextUptoCard

/-- THE SECOND FORM's CARD OF 'laws.FnExactLastChain'. -/
def fnExactLastChainUptoCard : Claim7 := { stood := { row := fnExactLastChainUptoRow, standIns := [], harness := (true, "33dd56b2fe3914efbf4f6fadd693a7dc8dd0bb8827bc82cc0d25c7e2be45c23e"), looks := true }, kinds := [], alts := [], laidByText := true, laidKinds := [.data, .data, .data, .data, .sentinel, .sentinel, .pinned], laidTests := true, laidLooks := .later }
def FnExactLastChainUptoCardSaid : Prop := Claim7.holds Tryd.pinned (.plain (OpenSpec.upto fnExactLastChainSpec)) fnExactLastChainUptoCard

/-- THE SECOND FORM's CARD OF 'laws.FnExactEventsBy'. -/
def fnExactEventsByUptoCard : Claim7 := { stood := { row := fnExactEventsByUptoRow, standIns := [], harness := (true, "33dd56b2fe3914efbf4f6fadd693a7dc8dd0bb8827bc82cc0d25c7e2be45c23e"), looks := true }, kinds := [], alts := [], laidByText := true, laidKinds := [.data, .data, .data, .data, .sentinel, .sentinel, .pinned], laidTests := true, laidLooks := .later }
def FnExactEventsByUptoCardSaid : Prop := Claim7.holds Tryd.pinned (.plain (OpenSpec.upto fnExactEventsBySpec)) fnExactEventsByUptoCard

/-- THE SECOND FORM's CARD OF 'laws.FnExactRecoverJournal'. -/
def fnExactRecoverJournalUptoCard : Claim7 := { stood := { row := fnExactRecoverJournalUptoRow, standIns := [], harness := (true, "33dd56b2fe3914efbf4f6fadd693a7dc8dd0bb8827bc82cc0d25c7e2be45c23e"), looks := true }, kinds := [], alts := [], laidByText := true, laidKinds := [.data, .data, .data, .data, .sentinel, .sentinel, .pinned], laidTests := true, laidLooks := .later }
def FnExactRecoverJournalUptoCardSaid : Prop := Claim7.holds Tryd.pinned (.plain (OpenSpec.upto fnExactRecoverJournalSpec)) fnExactRecoverJournalUptoCard

/-- THE SECOND FORM's CARD OF 'laws.FnExactAppendEvent'. -/
def fnExactAppendEventUptoCard : Claim7 := { stood := { row := fnExactAppendEventUptoRow, standIns := [], harness := (true, "33dd56b2fe3914efbf4f6fadd693a7dc8dd0bb8827bc82cc0d25c7e2be45c23e"), looks := true }, kinds := [], alts := [], laidByText := true, laidKinds := [.data, .data, .data, .data, .sentinel, .sentinel, .pinned], laidTests := true, laidLooks := .later }
def FnExactAppendEventUptoCardSaid : Prop := Claim7.holds Tryd.pinned (.plain (OpenSpec.upto fnExactAppendEventSpec)) fnExactAppendEventUptoCard

/-- THE SECOND FORM's CARD OF 'laws.FnExactReadJournal'. -/
def fnExactReadJournalUptoCard : Claim7 := { stood := { row := fnExactReadJournalUptoRow, standIns := [], harness := (true, "33dd56b2fe3914efbf4f6fadd693a7dc8dd0bb8827bc82cc0d25c7e2be45c23e"), looks := true }, kinds := [], alts := [], laidByText := true, laidKinds := [.data, .data, .data, .data, .sentinel, .sentinel, .pinned], laidTests := true, laidLooks := .later }
def FnExactReadJournalUptoCardSaid : Prop := Claim7.holds Tryd.pinned (.plain (OpenSpec.upto fnExactReadJournalSpec)) fnExactReadJournalUptoCard

/-- THE SECOND FORM's CARD OF 'laws.FnJournals'. -/
def fnJournalsUptoCard : Claim7 := { stood := { row := fnJournalsUptoRow, standIns := [], harness := (true, "33dd56b2fe3914efbf4f6fadd693a7dc8dd0bb8827bc82cc0d25c7e2be45c23e"), looks := true }, kinds := [], alts := [], laidByText := true, laidKinds := [.data, .data, .data, .data, .sentinel, .sentinel, .pinned], laidTests := true, laidLooks := .later }
def FnJournalsUptoCardSaid : Prop := Claim7.holds Tryd.pinned (.plain (OpenSpec.upto fnJournalsSpec)) fnJournalsUptoCard

/-- THE SECOND FORM's CARD OF 'laws.FnExactOrderText'. -/
def fnExactOrderTextUptoCard : Claim7 := { stood := { row := fnExactOrderTextUptoRow, standIns := [], harness := (true, "33dd56b2fe3914efbf4f6fadd693a7dc8dd0bb8827bc82cc0d25c7e2be45c23e"), looks := true }, kinds := [], alts := [], laidByText := true, laidKinds := [.data, .data, .data], laidTests := true, laidLooks := .later }
def FnExactOrderTextUptoCardSaid : Prop := Claim7.holds Tryd.pinned (.plain (OpenSpec.upto fnExactOrderTextSpec)) fnExactOrderTextUptoCard

/-- THE SECOND FORM's CARD OF 'laws.FnExactSecretOf'. -/
def fnExactSecretOfUptoCard : Claim7 := { stood := { row := fnExactSecretOfUptoRow, standIns := [], harness := (true, "33dd56b2fe3914efbf4f6fadd693a7dc8dd0bb8827bc82cc0d25c7e2be45c23e"), looks := true }, kinds := [], alts := [], laidByText := true, laidKinds := [.data, .data, .data], laidTests := true, laidLooks := .later }
def FnExactSecretOfUptoCardSaid : Prop := Claim7.holds Tryd.pinned (.plain (OpenSpec.upto fnExactSecretOfSpec)) fnExactSecretOfUptoCard

/-- THE SECOND FORM's CARD OF 'laws.FnExactReadOrder'. -/
def fnExactReadOrderUptoCard : Claim7 := { stood := { row := fnExactReadOrderUptoRow, standIns := [], harness := (true, "33dd56b2fe3914efbf4f6fadd693a7dc8dd0bb8827bc82cc0d25c7e2be45c23e"), looks := true }, kinds := [], alts := [], laidByText := true, laidKinds := [.data, .data, .data, .data, .sentinel, .sentinel, .pinned], laidTests := true, laidLooks := .later }
def FnExactReadOrderUptoCardSaid : Prop := Claim7.holds Tryd.pinned (.plain (OpenSpec.upto fnExactReadOrderSpec)) fnExactReadOrderUptoCard
end Rows
end Go.Proofs.YtnmaeefcjdbpcaaDoor
