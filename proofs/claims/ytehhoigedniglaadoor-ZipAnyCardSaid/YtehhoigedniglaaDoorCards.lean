/-
  DERIVED. GIVEN WITH THE SEED: THE CARDS: each row of YtehhoigedniglaaDoorRows.lean that lists a variable, with what it lists TIED to the program's text (the seventh form; the later family's looks); each row that meets fmt, with fmt's text TOLD by the authors' own Lean function (tested against real Go, not proved from fmt's source: count such statements apart). THE CARD IS WHAT COUNTS. Prove the row's statement (the work); the ties are given (YtehhoigedniglaaDoorTie.lean); close each card by the builder's one call (the guide's Derived/Test/ToyasCard.lean, 'card_holds'). Laid BY PROGRAM, IN A SANDBOX (cutbox-door.mjs). By AI agents, Wed Nov 11 2026. No macro, syntax, notation, axiom, sorry.
-/
import Derived.Test.YtehhoigedniglaaDoorRows
import GoSem.ClaimSeven
namespace Go.Proofs.YtehhoigedniglaaDoor
namespace Rows

/-- THE TIED CARD OF 'lighterlaw13.ZipEnds'. -/
def zipEndsCard : Claim7 := { stood := { row := zipEndsRow, standIns := [], harness := (true, "df86441647e190941ef249ffb77c2f6fd30d99eb185904e029a3655d0e6a1548"), looks := false }, kinds := [], alts := [], laidByText := true, laidKinds := [.data, .pinned], laidTests := true, laidLooks := .later }
def ZipEndsCardSaid : Prop := Claim7.holds Tryd.pinned (.plain (OpenSpec.ofChange zipEndsSpec)) zipEndsCard

/-- THE TIED CARD OF 'lighterlaw13.ZipSizes'. -/
def zipSizesCard : Claim7 := { stood := { row := zipSizesRow, standIns := [], harness := (true, "df86441647e190941ef249ffb77c2f6fd30d99eb185904e029a3655d0e6a1548"), looks := false }, kinds := [], alts := [], laidByText := true, laidKinds := [.data, .pinned], laidTests := true, laidLooks := .later }
def ZipSizesCardSaid : Prop := Claim7.holds Tryd.pinned (.plain (OpenSpec.ofChange zipSizesSpec)) zipSizesCard

/-- THE TIED CARD OF 'lighterlaw13.ZipBack'. -/
def zipBackCard : Claim7 := { stood := { row := zipBackRow, standIns := [], harness := (true, "df86441647e190941ef249ffb77c2f6fd30d99eb185904e029a3655d0e6a1548"), looks := false }, kinds := [], alts := [], laidByText := true, laidKinds := [.data, .pinned], laidTests := true, laidLooks := .later }
def ZipBackCardSaid : Prop := Claim7.holds Tryd.pinned (.plain (OpenSpec.ofChange zipBackSpec)) zipBackCard

/-- THE TIED CARD OF 'lighterlaw13.ZipAny'. -/
def zipAnyCard : Claim7 := { stood := { row := zipAnyRow, standIns := [], harness := (true, "df86441647e190941ef249ffb77c2f6fd30d99eb185904e029a3655d0e6a1548"), looks := false }, kinds := [], alts := [], laidByText := true, laidKinds := [.data, .pinned], laidTests := true, laidLooks := .later }
def ZipAnyCardSaid : Prop := Claim7.holds Tryd.pinned (.plain (OpenSpec.ofChange zipAnySpec)) zipAnyCard

/-- THE SECOND FORM's CARD OF 'lighterlaw13.ZipEnds'. -/
def zipEndsUptoCard : Claim7 := { stood := { row := zipEndsUptoRow, standIns := [], harness := (true, "df86441647e190941ef249ffb77c2f6fd30d99eb185904e029a3655d0e6a1548"), looks := false }, kinds := [], alts := [], laidByText := true, laidKinds := [.data, .pinned], laidTests := true, laidLooks := .later }
def ZipEndsUptoCardSaid : Prop := Claim7.holds Tryd.pinned (.plain (OpenSpec.upto zipEndsSpec)) zipEndsUptoCard

/-- THE SECOND FORM's CARD OF 'lighterlaw13.ZipSizes'. -/
def zipSizesUptoCard : Claim7 := { stood := { row := zipSizesUptoRow, standIns := [], harness := (true, "df86441647e190941ef249ffb77c2f6fd30d99eb185904e029a3655d0e6a1548"), looks := false }, kinds := [], alts := [], laidByText := true, laidKinds := [.data, .pinned], laidTests := true, laidLooks := .later }
def ZipSizesUptoCardSaid : Prop := Claim7.holds Tryd.pinned (.plain (OpenSpec.upto zipSizesSpec)) zipSizesUptoCard

/-- THE SECOND FORM's CARD OF 'lighterlaw13.ZipBack'. -/
def zipBackUptoCard : Claim7 := { stood := { row := zipBackUptoRow, standIns := [], harness := (true, "df86441647e190941ef249ffb77c2f6fd30d99eb185904e029a3655d0e6a1548"), looks := false }, kinds := [], alts := [], laidByText := true, laidKinds := [.data, .pinned], laidTests := true, laidLooks := .later }
def ZipBackUptoCardSaid : Prop := Claim7.holds Tryd.pinned (.plain (OpenSpec.upto zipBackSpec)) zipBackUptoCard

/-- THE SECOND FORM's CARD OF 'lighterlaw13.ZipAny'. -/
def zipAnyUptoCard : Claim7 := { stood := { row := zipAnyUptoRow, standIns := [], harness := (true, "df86441647e190941ef249ffb77c2f6fd30d99eb185904e029a3655d0e6a1548"), looks := false }, kinds := [], alts := [], laidByText := true, laidKinds := [.data, .pinned], laidTests := true, laidLooks := .later }
def ZipAnyUptoCardSaid : Prop := Claim7.holds Tryd.pinned (.plain (OpenSpec.upto zipAnySpec)) zipAnyUptoCard
end Rows
end Go.Proofs.YtehhoigedniglaaDoor
