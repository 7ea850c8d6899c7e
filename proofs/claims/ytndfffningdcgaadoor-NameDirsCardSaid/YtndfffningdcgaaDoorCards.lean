/-
  DERIVED. GIVEN WITH THE SEED: THE CARDS: each row of YtndfffningdcgaaDoorRows.lean that lists a variable, with what it lists TIED to the program's text (the seventh form; the later family's looks); each row that meets fmt, with fmt's text TOLD by the authors' own Lean function (tested against real Go, not proved from fmt's source: count such statements apart). THE CARD IS WHAT COUNTS. Prove the row's statement (the work); the ties are given (YtndfffningdcgaaDoorTie.lean); close each card by the builder's one call (the guide's Derived/Test/ToyasCard.lean, 'card_holds'). Laid BY PROGRAM, IN A SANDBOX (cutbox-door.mjs). By AI agents, Wed Nov 11 2026. No macro, syntax, notation, axiom, sorry.
-/
import Derived.Test.YtndfffningdcgaaDoorRows
import GoSem.ClaimSeven
namespace Go.Proofs.YtndfffningdcgaaDoor
namespace Rows

/-- THE TIED CARD OF 'lighterlaw12.NameLong'. -/
def nameLongCard : Claim7 := { stood := { row := nameLongRow, standIns := [], harness := (true, "ccfe34298fdebeeb4ab4fbedecd4013ca236809a151d580088fe1ea38478c07e"), looks := false }, kinds := [], alts := [], laidByText := true, laidKinds := [.data, .pinned], laidTests := true, laidLooks := .later }
def NameLongCardSaid : Prop := Claim7.holds Tryd.pinned (.plain (OpenSpec.ofChange nameLongSpec)) nameLongCard

/-- THE TIED CARD OF 'lighterlaw12.NameChecks'. -/
def nameChecksCard : Claim7 := { stood := { row := nameChecksRow, standIns := [], harness := (true, "ccfe34298fdebeeb4ab4fbedecd4013ca236809a151d580088fe1ea38478c07e"), looks := false }, kinds := [], alts := [], laidByText := true, laidKinds := [.data, .pinned], laidTests := true, laidLooks := .later }
def NameChecksCardSaid : Prop := Claim7.holds Tryd.pinned (.plain (OpenSpec.ofChange nameChecksSpec)) nameChecksCard

/-- THE TIED CARD OF 'lighterlaw12.NameLists'. -/
def nameListsCard : Claim7 := { stood := { row := nameListsRow, standIns := [], harness := (true, "ccfe34298fdebeeb4ab4fbedecd4013ca236809a151d580088fe1ea38478c07e"), looks := false }, kinds := [], alts := [], laidByText := true, laidKinds := [.data, .pinned], laidTests := true, laidLooks := .later }
def NameListsCardSaid : Prop := Claim7.holds Tryd.pinned (.plain (OpenSpec.ofChange nameListsSpec)) nameListsCard

/-- THE TIED CARD OF 'lighterlaw12.NameCleans'. -/
def nameCleansCard : Claim7 := { stood := { row := nameCleansRow, standIns := [], harness := (true, "ccfe34298fdebeeb4ab4fbedecd4013ca236809a151d580088fe1ea38478c07e"), looks := false }, kinds := [], alts := [], laidByText := true, laidKinds := [.data, .pinned], laidTests := true, laidLooks := .later }
def NameCleansCardSaid : Prop := Claim7.holds Tryd.pinned (.plain (OpenSpec.ofChange nameCleansSpec)) nameCleansCard

/-- THE TIED CARD OF 'lighterlaw12.NameDirs'. -/
def nameDirsCard : Claim7 := { stood := { row := nameDirsRow, standIns := [], harness := (true, "ccfe34298fdebeeb4ab4fbedecd4013ca236809a151d580088fe1ea38478c07e"), looks := false }, kinds := [], alts := [], laidByText := true, laidKinds := [.data, .pinned], laidTests := true, laidLooks := .later }
def NameDirsCardSaid : Prop := Claim7.holds Tryd.pinned (.plain (OpenSpec.ofChange nameDirsSpec)) nameDirsCard

/-- THE SECOND FORM's CARD OF 'lighterlaw12.NameLong'. -/
def nameLongUptoCard : Claim7 := { stood := { row := nameLongUptoRow, standIns := [], harness := (true, "ccfe34298fdebeeb4ab4fbedecd4013ca236809a151d580088fe1ea38478c07e"), looks := false }, kinds := [], alts := [], laidByText := true, laidKinds := [.data, .pinned], laidTests := true, laidLooks := .later }
def NameLongUptoCardSaid : Prop := Claim7.holds Tryd.pinned (.plain (OpenSpec.upto nameLongSpec)) nameLongUptoCard

/-- THE SECOND FORM's CARD OF 'lighterlaw12.NameChecks'. -/
def nameChecksUptoCard : Claim7 := { stood := { row := nameChecksUptoRow, standIns := [], harness := (true, "ccfe34298fdebeeb4ab4fbedecd4013ca236809a151d580088fe1ea38478c07e"), looks := false }, kinds := [], alts := [], laidByText := true, laidKinds := [.data, .pinned], laidTests := true, laidLooks := .later }
def NameChecksUptoCardSaid : Prop := Claim7.holds Tryd.pinned (.plain (OpenSpec.upto nameChecksSpec)) nameChecksUptoCard

/-- THE SECOND FORM's CARD OF 'lighterlaw12.NameLists'. -/
def nameListsUptoCard : Claim7 := { stood := { row := nameListsUptoRow, standIns := [], harness := (true, "ccfe34298fdebeeb4ab4fbedecd4013ca236809a151d580088fe1ea38478c07e"), looks := false }, kinds := [], alts := [], laidByText := true, laidKinds := [.data, .pinned], laidTests := true, laidLooks := .later }
def NameListsUptoCardSaid : Prop := Claim7.holds Tryd.pinned (.plain (OpenSpec.upto nameListsSpec)) nameListsUptoCard

/-- THE SECOND FORM's CARD OF 'lighterlaw12.NameCleans'. -/
def nameCleansUptoCard : Claim7 := { stood := { row := nameCleansUptoRow, standIns := [], harness := (true, "ccfe34298fdebeeb4ab4fbedecd4013ca236809a151d580088fe1ea38478c07e"), looks := false }, kinds := [], alts := [], laidByText := true, laidKinds := [.data, .pinned], laidTests := true, laidLooks := .later }
def NameCleansUptoCardSaid : Prop := Claim7.holds Tryd.pinned (.plain (OpenSpec.upto nameCleansSpec)) nameCleansUptoCard

/-- THE SECOND FORM's CARD OF 'lighterlaw12.NameDirs'. -/
def nameDirsUptoCard : Claim7 := { stood := { row := nameDirsUptoRow, standIns := [], harness := (true, "ccfe34298fdebeeb4ab4fbedecd4013ca236809a151d580088fe1ea38478c07e"), looks := false }, kinds := [], alts := [], laidByText := true, laidKinds := [.data, .pinned], laidTests := true, laidLooks := .later }
def NameDirsUptoCardSaid : Prop := Claim7.holds Tryd.pinned (.plain (OpenSpec.upto nameDirsSpec)) nameDirsUptoCard
end Rows
end Go.Proofs.YtndfffningdcgaaDoor
