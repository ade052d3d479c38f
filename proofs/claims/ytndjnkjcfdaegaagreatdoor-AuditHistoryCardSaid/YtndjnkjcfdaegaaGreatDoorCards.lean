/-
  DERIVED. GIVEN WITH THE SEED: THE CARDS: each row of YtndjnkjcfdaegaaGreatDoorRows.lean that lists a variable, with what it lists TIED to the program's text (the seventh form; the later family's looks); each row that meets fmt, with fmt's text TOLD by the authors' own Lean function (tested against real Go, not proved from fmt's source: count such statements apart). THE CARD IS WHAT COUNTS. Prove the row's statement (the work); the ties are given (YtndjnkjcfdaegaaGreatDoorTie.lean); close each card by the builder's one call (the guide's Derived/Test/ToyasCard.lean, 'card_holds'). Laid BY PROGRAM, IN A SANDBOX (cutbox-door.mjs). By AI agents, Wed Nov 11 2026. No macro, syntax, notation, axiom, sorry.
-/
import Derived.Test.YtndjnkjcfdaegaaGreatDoorRows
import GoSem.ClaimSeven
namespace Go.Proofs.YtndjnkjcfdaegaaGreatDoor
namespace Rows

/-- THE TIED CARD OF 'hedgerowlaw27.AuditHistory'. -/
def auditHistoryCard : Claim7 := { stood := { row := auditHistoryRow, standIns := [], harness := (true, "5ca3239bb2de90bee02798a31a6073dffa76976e3aea7ab69af73dd9b008ea35"), looks := true }, kinds := [], alts := [], laidByText := true, laidKinds := [.data, .data, .data, .data, .data, .sentinel, .sentinel, .pinned], laidTests := true, laidLooks := .later }
def AuditHistoryCardSaid : Prop := Claim7.holds Tryz.pinned (.plain (OpenSpec.ofChange auditHistorySpec)) auditHistoryCard

/-- THE SECOND FORM's CARD OF 'hedgerowlaw27.AuditHistory'. -/
def auditHistoryUptoCard : Claim7 := { stood := { row := auditHistoryUptoRow, standIns := [], harness := (true, "5ca3239bb2de90bee02798a31a6073dffa76976e3aea7ab69af73dd9b008ea35"), looks := true }, kinds := [], alts := [], laidByText := true, laidKinds := [.data, .data, .data, .data, .data, .sentinel, .sentinel, .pinned], laidTests := true, laidLooks := .later }
def AuditHistoryUptoCardSaid : Prop := Claim7.holds Tryz.pinned (.plain (OpenSpec.upto auditHistorySpec)) auditHistoryUptoCard
end Rows
end Go.Proofs.YtndjnkjcfdaegaaGreatDoor
