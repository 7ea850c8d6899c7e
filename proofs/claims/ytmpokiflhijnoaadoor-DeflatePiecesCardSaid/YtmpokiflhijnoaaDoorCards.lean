/-
  DERIVED. GIVEN WITH THE SEED: THE CARDS: each row of YtmpokiflhijnoaaDoorRows.lean that lists a variable, with what it lists TIED to the program's text (the seventh form; the later family's looks); each row that meets fmt, with fmt's text TOLD by the authors' own Lean function (tested against real Go, not proved from fmt's source: count such statements apart). THE CARD IS WHAT COUNTS. Prove the row's statement (the work); the ties are given (YtmpokiflhijnoaaDoorTie.lean); close each card by the builder's one call (the guide's Derived/Test/ToyasCard.lean, 'card_holds'). Laid BY PROGRAM, IN A SANDBOX (cutbox-door.mjs). By AI agents, Wed Nov 11 2026. No macro, syntax, notation, axiom, sorry.
-/
import Derived.Test.YtmpokiflhijnoaaDoorRows
import GoSem.ClaimSeven
namespace Go.Proofs.YtmpokiflhijnoaaDoor
namespace Rows

/-- THE TIED CARD OF 'lighterlaw09.BlockSkews'. -/
def blockSkewsCard : Claim7 := { stood := { row := blockSkewsRow, standIns := [], harness := (true, "85f1fb623be4f89ddf3b28fb83f3b1ad3e960bfbd448388dd3decfed113016f1"), looks := false }, kinds := [], alts := [], laidByText := true, laidKinds := [.widerDeep], laidTests := true, laidLooks := .later }
def BlockSkewsCardSaid : Prop := Claim7.holds Tryd.pinned (.plain (OpenSpec.ofChange blockSkewsSpec)) blockSkewsCard

/-- THE TIED CARD OF 'lighterlaw10.DeflatePieces'. -/
def deflatePiecesCard : Claim7 := { stood := { row := deflatePiecesRow, standIns := [], harness := (true, "85f1fb623be4f89ddf3b28fb83f3b1ad3e960bfbd448388dd3decfed113016f1"), looks := false }, kinds := [], alts := [], laidByText := true, laidKinds := [.data, .widerDeep], laidTests := true, laidLooks := .later }
def DeflatePiecesCardSaid : Prop := Claim7.holds Tryd.pinned (.plain (OpenSpec.ofChange deflatePiecesSpec)) deflatePiecesCard

/-- THE TIED CARD OF 'lighterlaw10.DeflateMost'. -/
def deflateMostCard : Claim7 := { stood := { row := deflateMostRow, standIns := [], harness := (true, "85f1fb623be4f89ddf3b28fb83f3b1ad3e960bfbd448388dd3decfed113016f1"), looks := false }, kinds := [], alts := [], laidByText := true, laidKinds := [.data, .widerDeep], laidTests := true, laidLooks := .later }
def DeflateMostCardSaid : Prop := Claim7.holds Tryd.pinned (.plain (OpenSpec.ofChange deflateMostSpec)) deflateMostCard

/-- THE SECOND FORM's CARD OF 'lighterlaw09.BlockSkews'. -/
def blockSkewsUptoCard : Claim7 := { stood := { row := blockSkewsUptoRow, standIns := [], harness := (true, "85f1fb623be4f89ddf3b28fb83f3b1ad3e960bfbd448388dd3decfed113016f1"), looks := false }, kinds := [], alts := [], laidByText := true, laidKinds := [.widerDeep], laidTests := true, laidLooks := .later }
def BlockSkewsUptoCardSaid : Prop := Claim7.holds Tryd.pinned (.plain (OpenSpec.upto blockSkewsSpec)) blockSkewsUptoCard

/-- THE SECOND FORM's CARD OF 'lighterlaw10.DeflatePieces'. -/
def deflatePiecesUptoCard : Claim7 := { stood := { row := deflatePiecesUptoRow, standIns := [], harness := (true, "85f1fb623be4f89ddf3b28fb83f3b1ad3e960bfbd448388dd3decfed113016f1"), looks := false }, kinds := [], alts := [], laidByText := true, laidKinds := [.data, .widerDeep], laidTests := true, laidLooks := .later }
def DeflatePiecesUptoCardSaid : Prop := Claim7.holds Tryd.pinned (.plain (OpenSpec.upto deflatePiecesSpec)) deflatePiecesUptoCard

/-- THE SECOND FORM's CARD OF 'lighterlaw10.DeflateMost'. -/
def deflateMostUptoCard : Claim7 := { stood := { row := deflateMostUptoRow, standIns := [], harness := (true, "85f1fb623be4f89ddf3b28fb83f3b1ad3e960bfbd448388dd3decfed113016f1"), looks := false }, kinds := [], alts := [], laidByText := true, laidKinds := [.data, .widerDeep], laidTests := true, laidLooks := .later }
def DeflateMostUptoCardSaid : Prop := Claim7.holds Tryd.pinned (.plain (OpenSpec.upto deflateMostSpec)) deflateMostUptoCard
end Rows
end Go.Proofs.YtmpokiflhijnoaaDoor
