/-
  DERIVED. GIVEN WITH THE SEED: THE PROGRAM's TIES (one call each: nine closed facts by the kernel) AND EACH ROW's TIE, after the 31st guide's Derived/Test/Toyas{Tie, Card}.lean. No idea stands in it: it is a product of the set-up. Laid BY PROGRAM, IN A SANDBOX (cutbox-door.mjs). By AI agents, Wed Nov 11 2026. No macro, syntax, notation, axiom, sorry.
-/
import Derived.Test.YtmpokiflhijnoaaGreatDoorRows
import Derived.LaidByTextLater
import Derived.SevenTiedAt
import Derived.LaidSub
import Derived.LaidOnce
namespace Go.Proofs.YtmpokiflhijnoaaGreatDoor
open Go
set_option maxRecDepth 100000
theorem seatTie1 : Tryz.prog.laidByTextLater [("lighter/match.depths", Rows.laid_lighter_match_depths), ("lighter/block.order", Rows.laid_lighter_block_order), ("lighter/inflate.order", Rows.laid_lighter_inflate_order)] [.data, .widerDeep, .widerDeep] true :=
  Program.laidByTextLater_by_one 24 8 20 (by kernel_rfl) (by kernel_rfl) (by kernel_rfl) (by kernel_rfl) (by kernel_rfl) (by kernel_rfl) (fun _ _ => by kernel_rfl)
theorem noOwnUnsafe : Tryz.pinned.checked.prog.headLifts.contains "ownunsafe" = false := by kernel_rfl
theorem tie : Tryz.prog.laidByTextLater [("lighter/match.depths", Rows.laid_lighter_match_depths), ("lighter/block.order", Rows.laid_lighter_block_order)] [.data, .widerDeep] true :=
  Program.laidByTextLater.sub seatTie1 ["lighter/match.depths", "lighter/block.order"] (by kernel_rfl) (by kernel_rfl)
theorem deflateBack_row_tie : Rows.deflateBackRow.laidByTextAt .later Tryz.pinned [.data, .widerDeep] true :=
  OpenClaim.laidByTextAt_later rfl rfl tie noOwnUnsafe
theorem tie2 : Tryz.prog.laidByTextLater [("lighter/match.depths", Rows.laid_lighter_match_depths), ("lighter/block.order", Rows.laid_lighter_block_order), ("lighter/inflate.order", Rows.laid_lighter_inflate_order)] [.data, .widerDeep, .widerDeep] true :=
  Program.laidByTextLater.sub seatTie1 ["lighter/match.depths", "lighter/block.order", "lighter/inflate.order"] (by kernel_rfl) (by kernel_rfl)
theorem deflateFlushes_row_tie : Rows.deflateFlushesRow.laidByTextAt .later Tryz.pinned [.data, .widerDeep, .widerDeep] true :=
  OpenClaim.laidByTextAt_later rfl rfl tie2 noOwnUnsafe
theorem deflateBackUpto_row_tie : Rows.deflateBackUptoRow.laidByTextAt .later Tryz.pinned [.data, .widerDeep] true :=
  OpenClaim.laidByTextAt_later rfl rfl tie noOwnUnsafe
theorem deflateFlushesUpto_row_tie : Rows.deflateFlushesUptoRow.laidByTextAt .later Tryz.pinned [.data, .widerDeep, .widerDeep] true :=
  OpenClaim.laidByTextAt_later rfl rfl tie2 noOwnUnsafe
end Go.Proofs.YtmpokiflhijnoaaGreatDoor
