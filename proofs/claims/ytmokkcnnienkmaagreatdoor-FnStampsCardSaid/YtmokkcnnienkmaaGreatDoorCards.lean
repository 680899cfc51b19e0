/-
  DERIVED. GIVEN WITH THE SEED: THE CARDS: each row of YtmokkcnnienkmaaGreatDoorRows.lean that lists a variable, with what it lists TIED to the program's text (the seventh form; the later family's looks); each row that meets fmt, with fmt's text TOLD by the authors' own Lean function (tested against real Go, not proved from fmt's source: count such statements apart). THE CARD IS WHAT COUNTS. Prove the row's statement (the work); the ties are given (YtmokkcnnienkmaaGreatDoorTie.lean); close each card by the builder's one call (the guide's Derived/Test/ToyasCard.lean, 'card_holds'). Laid BY PROGRAM, IN A SANDBOX (cutbox-door.mjs). By AI agents, Wed Nov 11 2026. No macro, syntax, notation, axiom, sorry.
-/
import Derived.Test.YtmokkcnnienkmaaGreatDoorRows
import GoSem.ClaimSeven
namespace Go.Proofs.YtmokkcnnienkmaaGreatDoor
namespace Rows

/-- THE TIED CARD OF 'laws.FnStamps'. -/
def fnStampsCard : Claim7 := { stood := { row := fnStampsRow, standIns := [], harness := (true, "d1282ce1fefa256a735e982a2b7a4e297a652d28a80a413e3374edc4d70944d2"), looks := true }, kinds := [], alts := [], laidByText := true, laidKinds := [.data, .data, .data], laidTests := true, laidLooks := .later }
def FnStampsCardSaid : Prop := Claim7.holds Tryz.pinned (.plain (OpenSpec.ofChange fnStampsSpec)) fnStampsCard

/-- THE TIED CARD OF 'laws.FnSecrets'. -/
def fnSecretsCard : Claim7 := { stood := { row := fnSecretsRow, standIns := [], harness := (true, "d1282ce1fefa256a735e982a2b7a4e297a652d28a80a413e3374edc4d70944d2"), looks := true }, kinds := [], alts := [], laidByText := true, laidKinds := [.data, .data, .data], laidTests := true, laidLooks := .later }
def FnSecretsCardSaid : Prop := Claim7.holds Tryz.pinned (.plain (OpenSpec.ofChange fnSecretsSpec)) fnSecretsCard

/-- THE TIED CARD OF 'laws.FnOrders'. -/
def fnOrdersCard : Claim7 := { stood := { row := fnOrdersRow, standIns := [], harness := (true, "d1282ce1fefa256a735e982a2b7a4e297a652d28a80a413e3374edc4d70944d2"), looks := true }, kinds := [], alts := [], laidByText := true, laidKinds := [.data, .data, .data, .data, .sentinel, .sentinel, .pinned], laidTests := true, laidLooks := .later }
def FnOrdersCardSaid : Prop := Claim7.holds Tryz.pinned (.plain (OpenSpec.ofChange fnOrdersSpec)) fnOrdersCard

/-- THE SECOND FORM's CARD OF 'laws.FnStamps'. -/
def fnStampsUptoCard : Claim7 := { stood := { row := fnStampsUptoRow, standIns := [], harness := (true, "d1282ce1fefa256a735e982a2b7a4e297a652d28a80a413e3374edc4d70944d2"), looks := true }, kinds := [], alts := [], laidByText := true, laidKinds := [.data, .data, .data], laidTests := true, laidLooks := .later }
def FnStampsUptoCardSaid : Prop := Claim7.holds Tryz.pinned (.plain (OpenSpec.upto fnStampsSpec)) fnStampsUptoCard

/-- THE SECOND FORM's CARD OF 'laws.FnSecrets'. -/
def fnSecretsUptoCard : Claim7 := { stood := { row := fnSecretsUptoRow, standIns := [], harness := (true, "d1282ce1fefa256a735e982a2b7a4e297a652d28a80a413e3374edc4d70944d2"), looks := true }, kinds := [], alts := [], laidByText := true, laidKinds := [.data, .data, .data], laidTests := true, laidLooks := .later }
def FnSecretsUptoCardSaid : Prop := Claim7.holds Tryz.pinned (.plain (OpenSpec.upto fnSecretsSpec)) fnSecretsUptoCard

/-- THE SECOND FORM's CARD OF 'laws.FnOrders'. -/
def fnOrdersUptoCard : Claim7 := { stood := { row := fnOrdersUptoRow, standIns := [], harness := (true, "d1282ce1fefa256a735e982a2b7a4e297a652d28a80a413e3374edc4d70944d2"), looks := true }, kinds := [], alts := [], laidByText := true, laidKinds := [.data, .data, .data, .data, .sentinel, .sentinel, .pinned], laidTests := true, laidLooks := .later }
def FnOrdersUptoCardSaid : Prop := Claim7.holds Tryz.pinned (.plain (OpenSpec.upto fnOrdersSpec)) fnOrdersUptoCard
end Rows
end Go.Proofs.YtmokkcnnienkmaaGreatDoor
