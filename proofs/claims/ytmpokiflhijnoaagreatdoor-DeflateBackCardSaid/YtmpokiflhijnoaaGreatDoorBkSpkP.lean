/-
  The head of a Dynamic block has at least so many bits: plain.
-/
import Derived.Test.YtmpokiflhijnoaaGreatDoorBkSize
namespace Go.Proofs.YtmpokiflhijnoaaGreatDoor.Bk
open Go.RowKit Go.Shelf Go.Proofs.YtmpokiflhijnoaaGreatDoor.Mg Go.Proofs.YtmpokiflhijnoaaGreatDoor.Bw
set_option linter.unusedVariables false
set_option linter.unusedSimpArgs false

theorem headB_ge (ts : List Tok) : 26 ≤ (headB ts).length := by
  have h3 := tellGo_ge (tellD ts) 19 (by omega)
  unfold headB
  rw [List.length_append, List.length_append, bitsN_len, tellsB_len]
  unfold tellC
  omega
end Go.Proofs.YtmpokiflhijnoaaGreatDoor.Bk
