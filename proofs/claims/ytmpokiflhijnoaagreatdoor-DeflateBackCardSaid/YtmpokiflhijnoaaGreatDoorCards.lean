/-
  DERIVED. GIVEN WITH THE SEED: THE CARDS: each row of YtmpokiflhijnoaaGreatDoorRows.lean that lists a variable, with what it lists TIED to the program's text (the seventh form; the later family's looks); each row that meets fmt, with fmt's text TOLD by the authors' own Lean function (tested against real Go, not proved from fmt's source: count such statements apart). THE CARD IS WHAT COUNTS. Prove the row's statement (the work); the ties are given (YtmpokiflhijnoaaGreatDoorTie.lean); close each card by the builder's one call (the guide's Derived/Test/ToyasCard.lean, 'card_holds'). Laid BY PROGRAM, IN A SANDBOX (cutbox-door.mjs). By AI agents, Wed Nov 11 2026. No macro, syntax, notation, axiom, sorry.
-/
import Derived.Test.YtmpokiflhijnoaaGreatDoorRows
import GoSem.ClaimSeven
namespace Go.Proofs.YtmpokiflhijnoaaGreatDoor
namespace Rows

/-- THE TIED CARD OF 'lighterlaw10.DeflateBack'. -/
def deflateBackCard : Claim7 := { stood := { row := deflateBackRow, standIns := [], harness := (true, "e2f1d55281602a1c1eb5010846e845b565e0636370ecc52e0c5514578318e4b4"), looks := false }, kinds := [], alts := [], laidByText := true, laidKinds := [.data, .widerDeep], laidTests := true, laidLooks := .later }
def DeflateBackCardSaid : Prop := Claim7.holds Tryz.pinned (.plain (OpenSpec.ofChange deflateBackSpec)) deflateBackCard

/-- THE TIED CARD OF 'lighterlaw10.DeflateFlushes'. -/
def deflateFlushesCard : Claim7 := { stood := { row := deflateFlushesRow, standIns := [], harness := (true, "e2f1d55281602a1c1eb5010846e845b565e0636370ecc52e0c5514578318e4b4"), looks := false }, kinds := [], alts := [], laidByText := true, laidKinds := [.data, .widerDeep, .widerDeep], laidTests := true, laidLooks := .later }
def DeflateFlushesCardSaid : Prop := Claim7.holds Tryz.pinned (.plain (OpenSpec.ofChange deflateFlushesSpec)) deflateFlushesCard

/-- THE SECOND FORM's CARD OF 'lighterlaw10.DeflateBack'. -/
def deflateBackUptoCard : Claim7 := { stood := { row := deflateBackUptoRow, standIns := [], harness := (true, "e2f1d55281602a1c1eb5010846e845b565e0636370ecc52e0c5514578318e4b4"), looks := false }, kinds := [], alts := [], laidByText := true, laidKinds := [.data, .widerDeep], laidTests := true, laidLooks := .later }
def DeflateBackUptoCardSaid : Prop := Claim7.holds Tryz.pinned (.plain (OpenSpec.upto deflateBackSpec)) deflateBackUptoCard

/-- THE SECOND FORM's CARD OF 'lighterlaw10.DeflateFlushes'. -/
def deflateFlushesUptoCard : Claim7 := { stood := { row := deflateFlushesUptoRow, standIns := [], harness := (true, "e2f1d55281602a1c1eb5010846e845b565e0636370ecc52e0c5514578318e4b4"), looks := false }, kinds := [], alts := [], laidByText := true, laidKinds := [.data, .widerDeep, .widerDeep], laidTests := true, laidLooks := .later }
def DeflateFlushesUptoCardSaid : Prop := Claim7.holds Tryz.pinned (.plain (OpenSpec.upto deflateFlushesSpec)) deflateFlushesUptoCard
end Rows
end Go.Proofs.YtmpokiflhijnoaaGreatDoor
