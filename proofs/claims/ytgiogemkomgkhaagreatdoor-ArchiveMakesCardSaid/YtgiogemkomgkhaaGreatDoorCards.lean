/-
  DERIVED. GIVEN WITH THE SEED: THE CARDS: each row of YtgiogemkomgkhaaGreatDoorRows.lean that lists a variable, with what it lists TIED to the program's text (the seventh form; the later family's looks); each row that meets fmt, with fmt's text TOLD by the authors' own Lean function (tested against real Go, not proved from fmt's source: count such statements apart). THE CARD IS WHAT COUNTS. Prove the row's statement (the work); the ties are given (YtgiogemkomgkhaaGreatDoorTie.lean); close each card by the builder's one call (the guide's Derived/Test/ToyasCard.lean, 'card_holds'). Laid BY PROGRAM, IN A SANDBOX (cutbox-door.mjs). By AI agents, Wed Nov 11 2026. No macro, syntax, notation, axiom, sorry.
-/
import Derived.Test.YtgiogemkomgkhaaGreatDoorRows
import GoSem.ClaimSeven
namespace Go.Proofs.YtgiogemkomgkhaaGreatDoor
namespace Rows

/-- THE TIED CARD OF 'lighterlaw15.ArchiveNexts'. -/
def archiveNextsCard : Claim7 := { stood := { row := archiveNextsRow, standIns := [], harness := (true, "e0160ba72ab5eabb20697b2ac357151bfc53e069e9401d6bf8c4f460c954b040"), looks := false }, kinds := [], alts := [], laidByText := true, laidKinds := [.data, .data, .widerDeep, .pinned], laidTests := true, laidLooks := .later }
def ArchiveNextsCardSaid : Prop := Claim7.holds Tryz.pinned (.plain (OpenSpec.ofChange archiveNextsSpec)) archiveNextsCard

/-- THE TIED CARD OF 'lighterlaw15.ArchiveChecks'. -/
def archiveChecksCard : Claim7 := { stood := { row := archiveChecksRow, standIns := [], harness := (true, "e0160ba72ab5eabb20697b2ac357151bfc53e069e9401d6bf8c4f460c954b040"), looks := false }, kinds := [], alts := [], laidByText := true, laidKinds := [.data, .data, .widerDeep, .pinned], laidTests := true, laidLooks := .later }
def ArchiveChecksCardSaid : Prop := Claim7.holds Tryz.pinned (.plain (OpenSpec.ofChange archiveChecksSpec)) archiveChecksCard

/-- THE TIED CARD OF 'lighterlaw15.ArchiveMakes'. -/
def archiveMakesCard : Claim7 := { stood := { row := archiveMakesRow, standIns := [], harness := (true, "e0160ba72ab5eabb20697b2ac357151bfc53e069e9401d6bf8c4f460c954b040"), looks := false }, kinds := [], alts := [], laidByText := true, laidKinds := [.data, .data, .widerDeep, .pinned], laidTests := true, laidLooks := .later }
def ArchiveMakesCardSaid : Prop := Claim7.holds Tryz.pinned (.plain (OpenSpec.ofChange archiveMakesSpec)) archiveMakesCard

/-- THE SECOND FORM's CARD OF 'lighterlaw15.ArchiveNexts'. -/
def archiveNextsUptoCard : Claim7 := { stood := { row := archiveNextsUptoRow, standIns := [], harness := (true, "e0160ba72ab5eabb20697b2ac357151bfc53e069e9401d6bf8c4f460c954b040"), looks := false }, kinds := [], alts := [], laidByText := true, laidKinds := [.data, .data, .widerDeep, .pinned], laidTests := true, laidLooks := .later }
def ArchiveNextsUptoCardSaid : Prop := Claim7.holds Tryz.pinned (.plain (OpenSpec.upto archiveNextsSpec)) archiveNextsUptoCard

/-- THE SECOND FORM's CARD OF 'lighterlaw15.ArchiveChecks'. -/
def archiveChecksUptoCard : Claim7 := { stood := { row := archiveChecksUptoRow, standIns := [], harness := (true, "e0160ba72ab5eabb20697b2ac357151bfc53e069e9401d6bf8c4f460c954b040"), looks := false }, kinds := [], alts := [], laidByText := true, laidKinds := [.data, .data, .widerDeep, .pinned], laidTests := true, laidLooks := .later }
def ArchiveChecksUptoCardSaid : Prop := Claim7.holds Tryz.pinned (.plain (OpenSpec.upto archiveChecksSpec)) archiveChecksUptoCard

/-- THE SECOND FORM's CARD OF 'lighterlaw15.ArchiveMakes'. -/
def archiveMakesUptoCard : Claim7 := { stood := { row := archiveMakesUptoRow, standIns := [], harness := (true, "e0160ba72ab5eabb20697b2ac357151bfc53e069e9401d6bf8c4f460c954b040"), looks := false }, kinds := [], alts := [], laidByText := true, laidKinds := [.data, .data, .widerDeep, .pinned], laidTests := true, laidLooks := .later }
def ArchiveMakesUptoCardSaid : Prop := Claim7.holds Tryz.pinned (.plain (OpenSpec.upto archiveMakesSpec)) archiveMakesUptoCard
end Rows
end Go.Proofs.YtgiogemkomgkhaaGreatDoor
