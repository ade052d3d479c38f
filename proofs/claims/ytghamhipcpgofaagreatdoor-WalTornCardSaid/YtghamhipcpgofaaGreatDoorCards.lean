/-
  DERIVED. GIVEN WITH THE SEED: THE CARDS: each row of YtghamhipcpgofaaGreatDoorRows.lean that lists a variable, with what it lists TIED to the program's text (the seventh form; the later family's looks); each row that meets fmt, with fmt's text TOLD by the authors' own Lean function (tested against real Go, not proved from fmt's source: count such statements apart). THE CARD IS WHAT COUNTS. Prove the row's statement (the work); the ties are given (YtghamhipcpgofaaGreatDoorTie.lean); close each card by the builder's one call (the guide's Derived/Test/ToyasCard.lean, 'card_holds'). Laid BY PROGRAM, IN A SANDBOX (cutbox-door.mjs). By AI agents, Wed Nov 11 2026. No macro, syntax, notation, axiom, sorry.
-/
import Derived.Test.YtghamhipcpgofaaGreatDoorRows
import GoSem.ClaimSeven
namespace Go.Proofs.YtghamhipcpgofaaGreatDoor
namespace Rows

/-- THE TIED CARD OF 'hedgerowlaw07.WalBounds'. -/
def walBoundsCard : Claim7 := { stood := { row := walBoundsRow, standIns := [], harness := (true, "ad4566cc3757eb04c644c67b830d536fc8aec31d4ae7dd5c70a7c4a4e84bf61f"), looks := true }, kinds := [], alts := [], laidByText := true, laidKinds := [.data, .data, .data, .data, .data, .sentinel, .sentinel, .pinned], laidTests := true, laidLooks := .later }
def WalBoundsCardSaid : Prop := Claim7.holds Tryz.pinned (.plain (OpenSpec.ofChange walBoundsSpec)) walBoundsCard

/-- THE TIED CARD OF 'hedgerowlaw07.WalTorn'. -/
def walTornCard : Claim7 := { stood := { row := walTornRow, standIns := [], harness := (true, "ad4566cc3757eb04c644c67b830d536fc8aec31d4ae7dd5c70a7c4a4e84bf61f"), looks := true }, kinds := [], alts := [], laidByText := true, laidKinds := [.data, .data, .data, .data, .data, .sentinel, .sentinel, .pinned], laidTests := true, laidLooks := .later }
def WalTornCardSaid : Prop := Claim7.holds Tryz.pinned (.plain (OpenSpec.ofChange walTornSpec)) walTornCard

/-- THE TIED CARD OF 'hedgerowlaw07.WalRefuses'. -/
def walRefusesCard : Claim7 := { stood := { row := walRefusesRow, standIns := [], harness := (true, "ad4566cc3757eb04c644c67b830d536fc8aec31d4ae7dd5c70a7c4a4e84bf61f"), looks := true }, kinds := [], alts := [], laidByText := true, laidKinds := [.data, .data, .data, .data, .data, .sentinel, .sentinel, .pinned], laidTests := true, laidLooks := .later }
def WalRefusesCardSaid : Prop := Claim7.holds Tryz.pinned (.plain (OpenSpec.ofChange walRefusesSpec)) walRefusesCard

/-- THE TIED CARD OF 'hedgerowlaw07.WalDrops'. -/
def walDropsCard : Claim7 := { stood := { row := walDropsRow, standIns := [], harness := (true, "ad4566cc3757eb04c644c67b830d536fc8aec31d4ae7dd5c70a7c4a4e84bf61f"), looks := true }, kinds := [], alts := [], laidByText := true, laidKinds := [.data, .data, .data, .data, .data, .sentinel, .sentinel, .pinned], laidTests := true, laidLooks := .later }
def WalDropsCardSaid : Prop := Claim7.holds Tryz.pinned (.plain (OpenSpec.ofChange walDropsSpec)) walDropsCard

/-- THE TIED CARD OF 'hedgerowlaw07.WalNone'. -/
def walNoneCard : Claim7 := { stood := { row := walNoneRow, standIns := [], harness := (true, "ad4566cc3757eb04c644c67b830d536fc8aec31d4ae7dd5c70a7c4a4e84bf61f"), looks := true }, kinds := [], alts := [], laidByText := true, laidKinds := [.data, .data, .data, .data, .data, .sentinel, .sentinel, .pinned], laidTests := true, laidLooks := .later }
def WalNoneCardSaid : Prop := Claim7.holds Tryz.pinned (.plain (OpenSpec.ofChange walNoneSpec)) walNoneCard

/-- THE TIED CARD OF 'hedgerowlaw07.WalBack'. -/
def walBackCard : Claim7 := { stood := { row := walBackRow, standIns := [], harness := (true, "ad4566cc3757eb04c644c67b830d536fc8aec31d4ae7dd5c70a7c4a4e84bf61f"), looks := true }, kinds := [], alts := [], laidByText := true, laidKinds := [.data, .data, .data, .data, .data, .sentinel, .sentinel, .pinned], laidTests := true, laidLooks := .later }
def WalBackCardSaid : Prop := Claim7.holds Tryz.pinned (.plain (OpenSpec.ofChange walBackSpec)) walBackCard

/-- THE SECOND FORM's CARD OF 'hedgerowlaw07.WalBounds'. -/
def walBoundsUptoCard : Claim7 := { stood := { row := walBoundsUptoRow, standIns := [], harness := (true, "ad4566cc3757eb04c644c67b830d536fc8aec31d4ae7dd5c70a7c4a4e84bf61f"), looks := true }, kinds := [], alts := [], laidByText := true, laidKinds := [.data, .data, .data, .data, .data, .sentinel, .sentinel, .pinned], laidTests := true, laidLooks := .later }
def WalBoundsUptoCardSaid : Prop := Claim7.holds Tryz.pinned (.plain (OpenSpec.upto walBoundsSpec)) walBoundsUptoCard

/-- THE SECOND FORM's CARD OF 'hedgerowlaw07.WalTorn'. -/
def walTornUptoCard : Claim7 := { stood := { row := walTornUptoRow, standIns := [], harness := (true, "ad4566cc3757eb04c644c67b830d536fc8aec31d4ae7dd5c70a7c4a4e84bf61f"), looks := true }, kinds := [], alts := [], laidByText := true, laidKinds := [.data, .data, .data, .data, .data, .sentinel, .sentinel, .pinned], laidTests := true, laidLooks := .later }
def WalTornUptoCardSaid : Prop := Claim7.holds Tryz.pinned (.plain (OpenSpec.upto walTornSpec)) walTornUptoCard

/-- THE SECOND FORM's CARD OF 'hedgerowlaw07.WalRefuses'. -/
def walRefusesUptoCard : Claim7 := { stood := { row := walRefusesUptoRow, standIns := [], harness := (true, "ad4566cc3757eb04c644c67b830d536fc8aec31d4ae7dd5c70a7c4a4e84bf61f"), looks := true }, kinds := [], alts := [], laidByText := true, laidKinds := [.data, .data, .data, .data, .data, .sentinel, .sentinel, .pinned], laidTests := true, laidLooks := .later }
def WalRefusesUptoCardSaid : Prop := Claim7.holds Tryz.pinned (.plain (OpenSpec.upto walRefusesSpec)) walRefusesUptoCard

/-- THE SECOND FORM's CARD OF 'hedgerowlaw07.WalDrops'. -/
def walDropsUptoCard : Claim7 := { stood := { row := walDropsUptoRow, standIns := [], harness := (true, "ad4566cc3757eb04c644c67b830d536fc8aec31d4ae7dd5c70a7c4a4e84bf61f"), looks := true }, kinds := [], alts := [], laidByText := true, laidKinds := [.data, .data, .data, .data, .data, .sentinel, .sentinel, .pinned], laidTests := true, laidLooks := .later }
def WalDropsUptoCardSaid : Prop := Claim7.holds Tryz.pinned (.plain (OpenSpec.upto walDropsSpec)) walDropsUptoCard

/-- THE SECOND FORM's CARD OF 'hedgerowlaw07.WalNone'. -/
def walNoneUptoCard : Claim7 := { stood := { row := walNoneUptoRow, standIns := [], harness := (true, "ad4566cc3757eb04c644c67b830d536fc8aec31d4ae7dd5c70a7c4a4e84bf61f"), looks := true }, kinds := [], alts := [], laidByText := true, laidKinds := [.data, .data, .data, .data, .data, .sentinel, .sentinel, .pinned], laidTests := true, laidLooks := .later }
def WalNoneUptoCardSaid : Prop := Claim7.holds Tryz.pinned (.plain (OpenSpec.upto walNoneSpec)) walNoneUptoCard

/-- THE SECOND FORM's CARD OF 'hedgerowlaw07.WalBack'. -/
def walBackUptoCard : Claim7 := { stood := { row := walBackUptoRow, standIns := [], harness := (true, "ad4566cc3757eb04c644c67b830d536fc8aec31d4ae7dd5c70a7c4a4e84bf61f"), looks := true }, kinds := [], alts := [], laidByText := true, laidKinds := [.data, .data, .data, .data, .data, .sentinel, .sentinel, .pinned], laidTests := true, laidLooks := .later }
def WalBackUptoCardSaid : Prop := Claim7.holds Tryz.pinned (.plain (OpenSpec.upto walBackSpec)) walBackUptoCard
end Rows
end Go.Proofs.YtghamhipcpgofaaGreatDoor
