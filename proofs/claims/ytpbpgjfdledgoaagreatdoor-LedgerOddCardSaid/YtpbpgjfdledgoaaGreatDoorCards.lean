/-
  DERIVED. GIVEN WITH THE SEED: THE CARDS: each row of YtpbpgjfdledgoaaGreatDoorRows.lean that lists a variable, with what it lists TIED to the program's text (the seventh form; the later family's looks); each row that meets fmt, with fmt's text TOLD by the authors' own Lean function (tested against real Go, not proved from fmt's source: count such statements apart). THE CARD IS WHAT COUNTS. Prove the row's statement (the work); the ties are given (YtpbpgjfdledgoaaGreatDoorTie.lean); close each card by the builder's one call (the guide's Derived/Test/ToyasCard.lean, 'card_holds'). Laid BY PROGRAM, IN A SANDBOX (cutbox-door.mjs). By AI agents, Wed Nov 11 2026. No macro, syntax, notation, axiom, sorry.
-/
import Derived.Test.YtpbpgjfdledgoaaGreatDoorRows
import GoSem.ClaimSeven
namespace Go.Proofs.YtpbpgjfdledgoaaGreatDoor
namespace Rows

/-- THE TIED CARD OF 'hedgerowlaw20.LedgerCodes'. -/
def ledgerCodesCard : Claim7 := { stood := { row := ledgerCodesRow, standIns := [], harness := (true, "4e4b84e7b402efe33d7d0a5596ac3368c7834c2129b5b92a6624f08dd9ce2a6b"), looks := true }, kinds := [], alts := [], laidByText := true, laidKinds := [.data, .data, .data, .data, .data, .sentinel, .sentinel, .pinned], laidTests := true, laidLooks := .later }
def LedgerCodesCardSaid : Prop := Claim7.holds Tryz.pinned (.plain (OpenSpec.ofChange ledgerCodesSpec)) ledgerCodesCard

/-- THE TIED CARD OF 'hedgerowlaw20.LedgerOnce'. -/
def ledgerOnceCard : Claim7 := { stood := { row := ledgerOnceRow, standIns := [], harness := (true, "4e4b84e7b402efe33d7d0a5596ac3368c7834c2129b5b92a6624f08dd9ce2a6b"), looks := true }, kinds := [], alts := [], laidByText := true, laidKinds := [.data, .data, .data, .data, .data, .sentinel, .sentinel, .pinned], laidTests := true, laidLooks := .later }
def LedgerOnceCardSaid : Prop := Claim7.holds Tryz.pinned (.plain (OpenSpec.ofChange ledgerOnceSpec)) ledgerOnceCard

/-- THE TIED CARD OF 'hedgerowlaw20.LedgerOdd'. -/
def ledgerOddCard : Claim7 := { stood := { row := ledgerOddRow, standIns := [], harness := (true, "4e4b84e7b402efe33d7d0a5596ac3368c7834c2129b5b92a6624f08dd9ce2a6b"), looks := true }, kinds := [], alts := [], laidByText := true, laidKinds := [.data, .data, .data, .data, .data, .sentinel, .sentinel, .pinned], laidTests := true, laidLooks := .later }
def LedgerOddCardSaid : Prop := Claim7.holds Tryz.pinned (.plain (OpenSpec.ofChange ledgerOddSpec)) ledgerOddCard

/-- THE TIED CARD OF 'hedgerowlaw20.LedgerNone'. -/
def ledgerNoneCard : Claim7 := { stood := { row := ledgerNoneRow, standIns := [], harness := (true, "4e4b84e7b402efe33d7d0a5596ac3368c7834c2129b5b92a6624f08dd9ce2a6b"), looks := true }, kinds := [], alts := [], laidByText := true, laidKinds := [.data, .data, .data, .data, .data, .sentinel, .sentinel, .pinned], laidTests := true, laidLooks := .later }
def LedgerNoneCardSaid : Prop := Claim7.holds Tryz.pinned (.plain (OpenSpec.ofChange ledgerNoneSpec)) ledgerNoneCard

/-- THE TIED CARD OF 'hedgerowlaw20.LedgerPlays'. -/
def ledgerPlaysCard : Claim7 := { stood := { row := ledgerPlaysRow, standIns := [], harness := (true, "4e4b84e7b402efe33d7d0a5596ac3368c7834c2129b5b92a6624f08dd9ce2a6b"), looks := true }, kinds := [], alts := [], laidByText := true, laidKinds := [.data, .data, .data, .data, .data, .sentinel, .sentinel, .pinned], laidTests := true, laidLooks := .later }
def LedgerPlaysCardSaid : Prop := Claim7.holds Tryz.pinned (.plain (OpenSpec.ofChange ledgerPlaysSpec)) ledgerPlaysCard

/-- THE TIED CARD OF 'hedgerowlaw20.LedgerStays'. -/
def ledgerStaysCard : Claim7 := { stood := { row := ledgerStaysRow, standIns := [], harness := (true, "4e4b84e7b402efe33d7d0a5596ac3368c7834c2129b5b92a6624f08dd9ce2a6b"), looks := true }, kinds := [], alts := [], laidByText := true, laidKinds := [.data, .data, .data, .data, .data, .sentinel, .sentinel, .pinned], laidTests := true, laidLooks := .later }
def LedgerStaysCardSaid : Prop := Claim7.holds Tryz.pinned (.plain (OpenSpec.ofChange ledgerStaysSpec)) ledgerStaysCard

/-- THE SECOND FORM's CARD OF 'hedgerowlaw20.LedgerCodes'. -/
def ledgerCodesUptoCard : Claim7 := { stood := { row := ledgerCodesUptoRow, standIns := [], harness := (true, "4e4b84e7b402efe33d7d0a5596ac3368c7834c2129b5b92a6624f08dd9ce2a6b"), looks := true }, kinds := [], alts := [], laidByText := true, laidKinds := [.data, .data, .data, .data, .data, .sentinel, .sentinel, .pinned], laidTests := true, laidLooks := .later }
def LedgerCodesUptoCardSaid : Prop := Claim7.holds Tryz.pinned (.plain (OpenSpec.upto ledgerCodesSpec)) ledgerCodesUptoCard

/-- THE SECOND FORM's CARD OF 'hedgerowlaw20.LedgerOnce'. -/
def ledgerOnceUptoCard : Claim7 := { stood := { row := ledgerOnceUptoRow, standIns := [], harness := (true, "4e4b84e7b402efe33d7d0a5596ac3368c7834c2129b5b92a6624f08dd9ce2a6b"), looks := true }, kinds := [], alts := [], laidByText := true, laidKinds := [.data, .data, .data, .data, .data, .sentinel, .sentinel, .pinned], laidTests := true, laidLooks := .later }
def LedgerOnceUptoCardSaid : Prop := Claim7.holds Tryz.pinned (.plain (OpenSpec.upto ledgerOnceSpec)) ledgerOnceUptoCard

/-- THE SECOND FORM's CARD OF 'hedgerowlaw20.LedgerOdd'. -/
def ledgerOddUptoCard : Claim7 := { stood := { row := ledgerOddUptoRow, standIns := [], harness := (true, "4e4b84e7b402efe33d7d0a5596ac3368c7834c2129b5b92a6624f08dd9ce2a6b"), looks := true }, kinds := [], alts := [], laidByText := true, laidKinds := [.data, .data, .data, .data, .data, .sentinel, .sentinel, .pinned], laidTests := true, laidLooks := .later }
def LedgerOddUptoCardSaid : Prop := Claim7.holds Tryz.pinned (.plain (OpenSpec.upto ledgerOddSpec)) ledgerOddUptoCard

/-- THE SECOND FORM's CARD OF 'hedgerowlaw20.LedgerNone'. -/
def ledgerNoneUptoCard : Claim7 := { stood := { row := ledgerNoneUptoRow, standIns := [], harness := (true, "4e4b84e7b402efe33d7d0a5596ac3368c7834c2129b5b92a6624f08dd9ce2a6b"), looks := true }, kinds := [], alts := [], laidByText := true, laidKinds := [.data, .data, .data, .data, .data, .sentinel, .sentinel, .pinned], laidTests := true, laidLooks := .later }
def LedgerNoneUptoCardSaid : Prop := Claim7.holds Tryz.pinned (.plain (OpenSpec.upto ledgerNoneSpec)) ledgerNoneUptoCard

/-- THE SECOND FORM's CARD OF 'hedgerowlaw20.LedgerPlays'. -/
def ledgerPlaysUptoCard : Claim7 := { stood := { row := ledgerPlaysUptoRow, standIns := [], harness := (true, "4e4b84e7b402efe33d7d0a5596ac3368c7834c2129b5b92a6624f08dd9ce2a6b"), looks := true }, kinds := [], alts := [], laidByText := true, laidKinds := [.data, .data, .data, .data, .data, .sentinel, .sentinel, .pinned], laidTests := true, laidLooks := .later }
def LedgerPlaysUptoCardSaid : Prop := Claim7.holds Tryz.pinned (.plain (OpenSpec.upto ledgerPlaysSpec)) ledgerPlaysUptoCard

/-- THE SECOND FORM's CARD OF 'hedgerowlaw20.LedgerStays'. -/
def ledgerStaysUptoCard : Claim7 := { stood := { row := ledgerStaysUptoRow, standIns := [], harness := (true, "4e4b84e7b402efe33d7d0a5596ac3368c7834c2129b5b92a6624f08dd9ce2a6b"), looks := true }, kinds := [], alts := [], laidByText := true, laidKinds := [.data, .data, .data, .data, .data, .sentinel, .sentinel, .pinned], laidTests := true, laidLooks := .later }
def LedgerStaysUptoCardSaid : Prop := Claim7.holds Tryz.pinned (.plain (OpenSpec.upto ledgerStaysSpec)) ledgerStaysUptoCard
end Rows
end Go.Proofs.YtpbpgjfdledgoaaGreatDoor
