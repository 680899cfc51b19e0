/-
  DERIVED. GIVEN WITH THE SEED: THE CARDS: each row of YtlelhmbhhnokoaaDoorRows.lean that lists a variable, with what it lists TIED to the program's text (the seventh form; the later family's looks); each row that meets fmt, with fmt's text TOLD by the authors' own Lean function (tested against real Go, not proved from fmt's source: count such statements apart). THE CARD IS WHAT COUNTS. Prove the row's statement (the work); the ties are given (YtlelhmbhhnokoaaDoorTie.lean); close each card by the builder's one call (the guide's Derived/Test/ToyasCard.lean, 'card_holds'). Laid BY PROGRAM, IN A SANDBOX (cutbox-door.mjs). By AI agents, Wed Nov 11 2026. No macro, syntax, notation, axiom, sorry.
-/
import Derived.Test.YtlelhmbhhnokoaaDoorRows
import GoSem.ClaimSeven
namespace Go.Proofs.YtlelhmbhhnokoaaDoor
namespace Rows

/-- THE TIED CARD OF 'laws.FnExactIsConsoleLine'. -/
def fnExactIsConsoleLineCard : Claim7 := { stood := { row := fnExactIsConsoleLineRow, standIns := [], harness := (true, "8859e0a9a979cec22b41b604df8a5a23228986629c6167cf2e595cdf7cd01445"), looks := true }, kinds := [], alts := [], laidByText := true, laidKinds := [.data, .data, .data, .data, .sentinel, .sentinel, .pinned], laidTests := true, laidLooks := .later }
def FnExactIsConsoleLineCardSaid : Prop := Claim7.holds Tryd.pinned (.plain (OpenSpec.ofChange fnExactIsConsoleLineSpec)) fnExactIsConsoleLineCard

/-- THE TIED CARD OF 'laws.FnExactOrderText'. -/
def fnExactOrderTextCard : Claim7 := { stood := { row := fnExactOrderTextRow, standIns := [], harness := (true, "8859e0a9a979cec22b41b604df8a5a23228986629c6167cf2e595cdf7cd01445"), looks := true }, kinds := [], alts := [], laidByText := true, laidKinds := [.data, .data, .data], laidTests := true, laidLooks := .later }
def FnExactOrderTextCardSaid : Prop := Claim7.holds Tryd.pinned (.plain (OpenSpec.ofChange fnExactOrderTextSpec)) fnExactOrderTextCard

/-- THE TIED CARD OF 'laws.FnExactReadOrder'. -/
def fnExactReadOrderCard : Claim7 := { stood := { row := fnExactReadOrderRow, standIns := [], harness := (true, "8859e0a9a979cec22b41b604df8a5a23228986629c6167cf2e595cdf7cd01445"), looks := true }, kinds := [], alts := [], laidByText := true, laidKinds := [.data, .data, .data, .data, .sentinel, .sentinel, .pinned], laidTests := true, laidLooks := .later }
def FnExactReadOrderCardSaid : Prop := Claim7.holds Tryd.pinned (.plain (OpenSpec.ofChange fnExactReadOrderSpec)) fnExactReadOrderCard

/-- THE TIED CARD OF 'laws.FnExactSecretOf'. -/
def fnExactSecretOfCard : Claim7 := { stood := { row := fnExactSecretOfRow, standIns := [], harness := (true, "8859e0a9a979cec22b41b604df8a5a23228986629c6167cf2e595cdf7cd01445"), looks := true }, kinds := [], alts := [], laidByText := true, laidKinds := [.data, .data, .data], laidTests := true, laidLooks := .later }
def FnExactSecretOfCardSaid : Prop := Claim7.holds Tryd.pinned (.plain (OpenSpec.ofChange fnExactSecretOfSpec)) fnExactSecretOfCard

/-- THE SECOND FORM's CARD OF 'laws.FnExactIsConsoleLine'. -/
def fnExactIsConsoleLineUptoCard : Claim7 := { stood := { row := fnExactIsConsoleLineUptoRow, standIns := [], harness := (true, "8859e0a9a979cec22b41b604df8a5a23228986629c6167cf2e595cdf7cd01445"), looks := true }, kinds := [], alts := [], laidByText := true, laidKinds := [.data, .data, .data, .data, .sentinel, .sentinel, .pinned], laidTests := true, laidLooks := .later }
def FnExactIsConsoleLineUptoCardSaid : Prop := Claim7.holds Tryd.pinned (.plain (OpenSpec.upto fnExactIsConsoleLineSpec)) fnExactIsConsoleLineUptoCard

/-- THE SECOND FORM's CARD OF 'laws.FnExactOrderText'. -/
def fnExactOrderTextUptoCard : Claim7 := { stood := { row := fnExactOrderTextUptoRow, standIns := [], harness := (true, "8859e0a9a979cec22b41b604df8a5a23228986629c6167cf2e595cdf7cd01445"), looks := true }, kinds := [], alts := [], laidByText := true, laidKinds := [.data, .data, .data], laidTests := true, laidLooks := .later }
def FnExactOrderTextUptoCardSaid : Prop := Claim7.holds Tryd.pinned (.plain (OpenSpec.upto fnExactOrderTextSpec)) fnExactOrderTextUptoCard

/-- THE SECOND FORM's CARD OF 'laws.FnExactReadOrder'. -/
def fnExactReadOrderUptoCard : Claim7 := { stood := { row := fnExactReadOrderUptoRow, standIns := [], harness := (true, "8859e0a9a979cec22b41b604df8a5a23228986629c6167cf2e595cdf7cd01445"), looks := true }, kinds := [], alts := [], laidByText := true, laidKinds := [.data, .data, .data, .data, .sentinel, .sentinel, .pinned], laidTests := true, laidLooks := .later }
def FnExactReadOrderUptoCardSaid : Prop := Claim7.holds Tryd.pinned (.plain (OpenSpec.upto fnExactReadOrderSpec)) fnExactReadOrderUptoCard

/-- THE SECOND FORM's CARD OF 'laws.FnExactSecretOf'. -/
def fnExactSecretOfUptoCard : Claim7 := { stood := { row := fnExactSecretOfUptoRow, standIns := [], harness := (true, "8859e0a9a979cec22b41b604df8a5a23228986629c6167cf2e595cdf7cd01445"), looks := true }, kinds := [], alts := [], laidByText := true, laidKinds := [.data, .data, .data], laidTests := true, laidLooks := .later }
def FnExactSecretOfUptoCardSaid : Prop := Claim7.holds Tryd.pinned (.plain (OpenSpec.upto fnExactSecretOfSpec)) fnExactSecretOfUptoCard
end Rows
end Go.Proofs.YtlelhmbhhnokoaaDoor
