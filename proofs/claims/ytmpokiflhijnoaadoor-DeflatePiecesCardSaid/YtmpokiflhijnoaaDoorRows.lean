/-
  NARROWER THAN 'FOR EVERY INPUT', by the rows' own cells (each row's printed sentence says how): BlockSkews: laid · DeflatePieces: laid · DeflateMost: laid.
  DERIVED. THE GIVEN ROWS OF THIS SEAT. 3 by the template 'for every input the law returns true; each argument reads behind the call as it read before'; 0 by the template 'total and deterministic' (their statements: YtmpokiflhijnoaaDoorTotals.lean).
  GIVEN WITH THE SEED: the statements are not yours to turn. If you find one false, say at which input.
  Laid BY PROGRAM, IN A SANDBOX (cutbox-rows.mjs): the forced cells as the released guide's own fill.sh prints them over the translation 1b46bf58098e5368… (all of the seat's roots in one cut). By AI agents, Wed Nov 11 2026. No macro, syntax, notation, axiom, sorry.
-/
import Derived.Test.YtmpokiflhijnoaaDoorChecked
import GoSem.Claim
import GoSem.ClaimJoined
import GoSem.ClaimMapViews
import Derived.JoinedTies
import Derived.KernelRfl
namespace Go.Proofs.YtmpokiflhijnoaaDoor
/- THE CELL 'sum', in the pinned program and in every row, IS THE sha256 OF THE DUMP (.gsa) THAT YtmpokiflhijnoaaDoorProg.lean LOADS. Nothing in Lean hashes anything: it is a label: what it is worth is what the hold of that sum in a sandbox is worth. -/
noncomputable def Tryd.pinned : Pinned := { name := "ytmpokiflhijnoaadoor", sum := "1b46bf58098e5368a5da46e4797e442f751bc998b04d3caf787c26f5da953f65", checked := Tryd.checked }
namespace Rows
def none {H : Type} : Left H := { results := [], args := [] }

/- WHAT THE LISTED PACKAGE-LEVEL VARIABLES READ AS WHEN THE CALL BEGINS. Each datum BY PROGRAM (the guide's laid-datum.mjs) off the statement by which the dump's own 'gosem.cut.vars' lays the variable. In a bare row this is a premise. The card (YtmpokiflhijnoaaDoorCards.lean) ties it to the program's text. -/
def laid_lighter_block_order {H : Type} : DataW H := .agg [.lit (.int .i64 16), .lit (.int .i64 17), .lit (.int .i64 18), .lit (.int .i64 0), .lit (.int .i64 8), .lit (.int .i64 7), .lit (.int .i64 9), .lit (.int .i64 6), .lit (.int .i64 10), .lit (.int .i64 5), .lit (.int .i64 11), .lit (.int .i64 4), .lit (.int .i64 12), .lit (.int .i64 3), .lit (.int .i64 13), .lit (.int .i64 2), .lit (.int .i64 14), .lit (.int .i64 1), .lit (.int .i64 15)]
def laid_lighter_match_depths {H : Type} : DataW H := .agg [.lit (.int .i64 0), .lit (.int .i64 4), .lit (.int .i64 8), .lit (.int .i64 16), .lit (.int .i64 16), .lit (.int .i64 32), .lit (.int .i64 64), .lit (.int .i64 128), .lit (.int .i64 512), .lit (.int .i64 1073741824)]

/-- 'lighterlaw09.BlockSkews': WHATEVER THE INPUT: true; the input reads as it did. -/
def blockSkewsSpec : ChangeSpec := { name := "blockSkews", fn := fun _ => fun
  | [d] => { results := [.lit (.bool true)], args := [d] }
  | _ => none }
def blockSkewsRow : OpenClaim := { program := "ytmpokiflhijnoaadoor", sum := "1b46bf58098e5368a5da46e4797e442f751bc998b04d3caf787c26f5da953f65", func := "lighter/lighterlaw09.BlockSkews", spec := "blockSkews", unfollowed := true, recurses := true, named := ["lighter/block.order"], apart := false, laid := [("lighter/block.order", laid_lighter_block_order)] }
def BlockSkewsSaid : Prop := blockSkewsRow.holds Tryd.pinned (OpenSpec.ofChange blockSkewsSpec)

/-- ITS FALSE NEIGHBOUR: 'it returns false'. Refute it at one input. -/
def blockSkewsWrong : ChangeSpec := { name := "blockSkews", fn := fun _ => fun
  | [d] => { results := [.lit (.bool false)], args := [d] }
  | _ => none }
def BlockSkewsWrongFalsely : Prop := blockSkewsRow.holds Tryd.pinned (OpenSpec.ofChange blockSkewsWrong)

/-- 'lighterlaw10.DeflatePieces': WHATEVER THE INPUT: true; the input reads as it did. -/
def deflatePiecesSpec : ChangeSpec := { name := "deflatePieces", fn := fun _ => fun
  | [d1, d2, d3] => { results := [.lit (.bool true)], args := [d1, d2, d3] }
  | _ => none }
def deflatePiecesRow : OpenClaim := { program := "ytmpokiflhijnoaadoor", sum := "1b46bf58098e5368a5da46e4797e442f751bc998b04d3caf787c26f5da953f65", func := "lighter/lighterlaw10.DeflatePieces", spec := "deflatePieces", unfollowed := true, recurses := true, named := ["lighter/match.depths", "lighter/block.order"], apart := false, laid := [("lighter/match.depths", laid_lighter_match_depths), ("lighter/block.order", laid_lighter_block_order)] }
def DeflatePiecesSaid : Prop := deflatePiecesRow.holds Tryd.pinned (OpenSpec.ofChange deflatePiecesSpec)

/-- ITS FALSE NEIGHBOUR: 'it returns false'. Refute it at one input. -/
def deflatePiecesWrong : ChangeSpec := { name := "deflatePieces", fn := fun _ => fun
  | [d1, d2, d3] => { results := [.lit (.bool false)], args := [d1, d2, d3] }
  | _ => none }
def DeflatePiecesWrongFalsely : Prop := deflatePiecesRow.holds Tryd.pinned (OpenSpec.ofChange deflatePiecesWrong)

/-- 'lighterlaw10.DeflateMost': WHATEVER THE INPUT: true; the input reads as it did. -/
def deflateMostSpec : ChangeSpec := { name := "deflateMost", fn := fun _ => fun
  | [d] => { results := [.lit (.bool true)], args := [d] }
  | _ => none }
def deflateMostRow : OpenClaim := { program := "ytmpokiflhijnoaadoor", sum := "1b46bf58098e5368a5da46e4797e442f751bc998b04d3caf787c26f5da953f65", func := "lighter/lighterlaw10.DeflateMost", spec := "deflateMost", unfollowed := true, recurses := true, named := ["lighter/match.depths", "lighter/block.order"], apart := false, laid := [("lighter/match.depths", laid_lighter_match_depths), ("lighter/block.order", laid_lighter_block_order)] }
def DeflateMostSaid : Prop := deflateMostRow.holds Tryd.pinned (OpenSpec.ofChange deflateMostSpec)

/-- ITS FALSE NEIGHBOUR: 'it returns false'. Refute it at one input. -/
def deflateMostWrong : ChangeSpec := { name := "deflateMost", fn := fun _ => fun
  | [d] => { results := [.lit (.bool false)], args := [d] }
  | _ => none }
def DeflateMostWrongFalsely : Prop := deflateMostRow.holds Tryd.pinned (OpenSpec.ofChange deflateMostWrong)

/- THE SECOND FORM. 'bulk': how many values and letters a reading holds, each counted each time it is reached (what is shared counts as often as it is met; a slice's spare places count too). A statement '..UptoSaid' is the law's where the arguments, and the package variables that the reading takes, are together of bulk at most 1048576: NARROWER than '..Said'. Prove '..Said' where nothing that the law and all that it calls make is longer than what came in: it says more and counts as full. Else prove '..UptoSaid'. A law counts once. -/
mutual
def uptoBulk {H : Type} : DataW H → Nat
  | .lit (.string bytes) => bytes.length + 1
  | .lit _ => 1
  | .nil => 1
  | .ptr d => uptoBulk d + 1
  | .slice elems spare => uptoBulkAll elems + uptoBulkAll spare + 1
  | .agg parts => uptoBulkAll parts + 1
  | .iface _ d => uptoBulk d + 1
  | .map entries => uptoBulkEntries entries + 1
  | .held _ => 1
def uptoBulkAll {H : Type} : List (DataW H) → Nat
  | [] => 0
  | d :: r => uptoBulk d + uptoBulkAll r
def uptoBulkEntries {H : Type} : List (Lit × DataW H) → Nat
  | [] => 0
  | x :: r => uptoBulkEntry x + uptoBulkEntries r
def uptoBulkEntry {H : Type} : Lit × DataW H → Nat
  | (.string bytes, d) => bytes.length + uptoBulk d + 1
  | (_, d) => uptoBulk d + 1
 end
def uptoSmall : (H : Type) → List (DataW H) → Bool := fun _ ds => decide (uptoBulkAll ds ≤ 1048576)
def OpenSpec.upto (s : _root_.Go.ChangeSpec) : _root_.Go.OpenSpec := { _root_.Go.OpenSpec.ofChange s with cond := some uptoSmall }

/-- 'lighterlaw09.BlockSkews', WHERE WHAT IT READS IS OF BULK AT MOST 1048576: true; the input reads as it did. -/
def blockSkewsUptoRow : OpenClaim := { program := "ytmpokiflhijnoaadoor", sum := "1b46bf58098e5368a5da46e4797e442f751bc998b04d3caf787c26f5da953f65", func := "lighter/lighterlaw09.BlockSkews", spec := "blockSkews", unfollowed := true, recurses := true, named := ["lighter/block.order"], apart := false, laid := [("lighter/block.order", laid_lighter_block_order)], narrowed := true }
def BlockSkewsUptoSaid : Prop := blockSkewsUptoRow.holds Tryd.pinned (OpenSpec.upto blockSkewsSpec)

/-- 'lighterlaw10.DeflatePieces', WHERE WHAT IT READS IS OF BULK AT MOST 1048576: true; the input reads as it did. -/
def deflatePiecesUptoRow : OpenClaim := { program := "ytmpokiflhijnoaadoor", sum := "1b46bf58098e5368a5da46e4797e442f751bc998b04d3caf787c26f5da953f65", func := "lighter/lighterlaw10.DeflatePieces", spec := "deflatePieces", unfollowed := true, recurses := true, named := ["lighter/match.depths", "lighter/block.order"], apart := false, laid := [("lighter/match.depths", laid_lighter_match_depths), ("lighter/block.order", laid_lighter_block_order)], narrowed := true }
def DeflatePiecesUptoSaid : Prop := deflatePiecesUptoRow.holds Tryd.pinned (OpenSpec.upto deflatePiecesSpec)

/-- 'lighterlaw10.DeflateMost', WHERE WHAT IT READS IS OF BULK AT MOST 1048576: true; the input reads as it did. -/
def deflateMostUptoRow : OpenClaim := { program := "ytmpokiflhijnoaadoor", sum := "1b46bf58098e5368a5da46e4797e442f751bc998b04d3caf787c26f5da953f65", func := "lighter/lighterlaw10.DeflateMost", spec := "deflateMost", unfollowed := true, recurses := true, named := ["lighter/match.depths", "lighter/block.order"], apart := false, laid := [("lighter/match.depths", laid_lighter_match_depths), ("lighter/block.order", laid_lighter_block_order)], narrowed := true }
def DeflateMostUptoSaid : Prop := deflateMostUptoRow.holds Tryd.pinned (OpenSpec.upto deflateMostSpec)

end Rows
end Go.Proofs.YtmpokiflhijnoaaDoor
