/-
  DERIVED. GIVEN WITH THE SEED: THE CARDS: each row of YtimomekkopadhaaDoorRows.lean that lists a variable, with what it lists TIED to the program's text (the seventh form; the later family's looks); each row that meets fmt, with fmt's text TOLD by the authors' own Lean function (tested against real Go, not proved from fmt's source: count such statements apart). THE CARD IS WHAT COUNTS. Prove the row's statement (the work); the ties are given (YtimomekkopadhaaDoorTie.lean); close each card by the builder's one call (the guide's Derived/Test/ToyasCard.lean, 'card_holds'). Laid BY PROGRAM, IN A SANDBOX (cutbox-door.mjs). By AI agents, Wed Nov 11 2026. No macro, syntax, notation, axiom, sorry.
-/
import Derived.Test.YtimomekkopadhaaDoorRows
import GoSem.ClaimSeven
namespace Go.Proofs.YtimomekkopadhaaDoor
namespace Rows

/-- THE TIED CARD OF 'lighterlaw09.BlockPacks'. -/
def blockPacksCard : Claim7 := { stood := { row := blockPacksRow, standIns := [], harness := (true, "7fdef4f652b41968204e70a8a63fdbffcaa8671f866fbf27e98dba7349cb18c0"), looks := false }, kinds := [], alts := [], laidByText := true, laidKinds := [.widerDeep], laidTests := true, laidLooks := .later }
def BlockPacksCardSaid : Prop := Claim7.holds Tryd.pinned (.plain (OpenSpec.ofChange blockPacksSpec)) blockPacksCard

/-- THE TIED CARD OF 'lighterlaw09.BlockRefuses'. -/
def blockRefusesCard : Claim7 := { stood := { row := blockRefusesRow, standIns := [], harness := (true, "7fdef4f652b41968204e70a8a63fdbffcaa8671f866fbf27e98dba7349cb18c0"), looks := false }, kinds := [], alts := [], laidByText := true, laidKinds := [.widerDeep], laidTests := true, laidLooks := .later }
def BlockRefusesCardSaid : Prop := Claim7.holds Tryd.pinned (.plain (OpenSpec.ofChange blockRefusesSpec)) blockRefusesCard

/-- THE TIED CARD OF 'lighterlaw09.BlockSkews'. -/
def blockSkewsCard : Claim7 := { stood := { row := blockSkewsRow, standIns := [], harness := (true, "7fdef4f652b41968204e70a8a63fdbffcaa8671f866fbf27e98dba7349cb18c0"), looks := false }, kinds := [], alts := [], laidByText := true, laidKinds := [.widerDeep], laidTests := true, laidLooks := .later }
def BlockSkewsCardSaid : Prop := Claim7.holds Tryd.pinned (.plain (OpenSpec.ofChange blockSkewsSpec)) blockSkewsCard

/-- THE SECOND FORM's CARD OF 'lighterlaw09.BlockPacks'. -/
def blockPacksUptoCard : Claim7 := { stood := { row := blockPacksUptoRow, standIns := [], harness := (true, "7fdef4f652b41968204e70a8a63fdbffcaa8671f866fbf27e98dba7349cb18c0"), looks := false }, kinds := [], alts := [], laidByText := true, laidKinds := [.widerDeep], laidTests := true, laidLooks := .later }
def BlockPacksUptoCardSaid : Prop := Claim7.holds Tryd.pinned (.plain (OpenSpec.upto blockPacksSpec)) blockPacksUptoCard

/-- THE SECOND FORM's CARD OF 'lighterlaw09.BlockRefuses'. -/
def blockRefusesUptoCard : Claim7 := { stood := { row := blockRefusesUptoRow, standIns := [], harness := (true, "7fdef4f652b41968204e70a8a63fdbffcaa8671f866fbf27e98dba7349cb18c0"), looks := false }, kinds := [], alts := [], laidByText := true, laidKinds := [.widerDeep], laidTests := true, laidLooks := .later }
def BlockRefusesUptoCardSaid : Prop := Claim7.holds Tryd.pinned (.plain (OpenSpec.upto blockRefusesSpec)) blockRefusesUptoCard

/-- THE SECOND FORM's CARD OF 'lighterlaw09.BlockSkews'. -/
def blockSkewsUptoCard : Claim7 := { stood := { row := blockSkewsUptoRow, standIns := [], harness := (true, "7fdef4f652b41968204e70a8a63fdbffcaa8671f866fbf27e98dba7349cb18c0"), looks := false }, kinds := [], alts := [], laidByText := true, laidKinds := [.widerDeep], laidTests := true, laidLooks := .later }
def BlockSkewsUptoCardSaid : Prop := Claim7.holds Tryd.pinned (.plain (OpenSpec.upto blockSkewsSpec)) blockSkewsUptoCard
end Rows
end Go.Proofs.YtimomekkopadhaaDoor
