/-
  NARROWER THAN 'FOR EVERY INPUT', by the rows' own cells (each row's printed sentence says how): DeflateBack: laid · DeflateFlushes: laid.
  DERIVED. THE GIVEN ROWS OF THIS SEAT. 2 by the template 'for every input the law returns true; each argument reads behind the call as it read before'; 0 by the template 'total and deterministic' (their statements: YtmpokiflhijnoaaGreatDoorTotals.lean).
  GIVEN WITH THE SEED: the statements are not yours to turn. If you find one false, say at which input.
  Laid BY PROGRAM, IN A SANDBOX (cutbox-rows.mjs): the forced cells as the released guide's own fill.sh prints them over the translation 24ce81d0458d6a85… (all of the seat's roots in one cut). By AI agents, Wed Nov 11 2026. No macro, syntax, notation, axiom, sorry.
-/
import Derived.Test.YtmpokiflhijnoaaGreatDoorChecked
import GoSem.Claim
import GoSem.ClaimJoined
import GoSem.ClaimMapViews
import Derived.JoinedTies
import Derived.KernelRfl
namespace Go.Proofs.YtmpokiflhijnoaaGreatDoor
/- THE CELL 'sum', in the pinned program and in every row, IS THE sha256 OF THE DUMP (.gsa) THAT YtmpokiflhijnoaaGreatDoorProg.lean LOADS. Nothing in Lean hashes anything: it is a label: what it is worth is what the hold of that sum in a sandbox is worth. -/
noncomputable def Tryz.pinned : Pinned := { name := "ytmpokiflhijnoaagreatdoor", sum := "24ce81d0458d6a85947bbf1128c9e3483719d0d04439fcff0ffa76d100fecdec", checked := Tryz.checked }
namespace Rows
def none {H : Type} : Left H := { results := [], args := [] }

/- WHAT THE LISTED PACKAGE-LEVEL VARIABLES READ AS WHEN THE CALL BEGINS. Each datum BY PROGRAM (the guide's laid-datum.mjs) off the statement by which the dump's own 'gosem.cut.vars' lays the variable. In a bare row this is a premise. The card (YtmpokiflhijnoaaGreatDoorCards.lean) ties it to the program's text. -/
def laid_lighter_match_depths {H : Type} : DataW H := .agg [.lit (.int .i64 0), .lit (.int .i64 4), .lit (.int .i64 8), .lit (.int .i64 16), .lit (.int .i64 16), .lit (.int .i64 32), .lit (.int .i64 64), .lit (.int .i64 128), .lit (.int .i64 512), .lit (.int .i64 1073741824)]
def laid_lighter_block_order {H : Type} : DataW H := .agg [.lit (.int .i64 16), .lit (.int .i64 17), .lit (.int .i64 18), .lit (.int .i64 0), .lit (.int .i64 8), .lit (.int .i64 7), .lit (.int .i64 9), .lit (.int .i64 6), .lit (.int .i64 10), .lit (.int .i64 5), .lit (.int .i64 11), .lit (.int .i64 4), .lit (.int .i64 12), .lit (.int .i64 3), .lit (.int .i64 13), .lit (.int .i64 2), .lit (.int .i64 14), .lit (.int .i64 1), .lit (.int .i64 15)]
def laid_lighter_inflate_order {H : Type} : DataW H := .agg [.lit (.int .i64 16), .lit (.int .i64 17), .lit (.int .i64 18), .lit (.int .i64 0), .lit (.int .i64 8), .lit (.int .i64 7), .lit (.int .i64 9), .lit (.int .i64 6), .lit (.int .i64 10), .lit (.int .i64 5), .lit (.int .i64 11), .lit (.int .i64 4), .lit (.int .i64 12), .lit (.int .i64 3), .lit (.int .i64 13), .lit (.int .i64 2), .lit (.int .i64 14), .lit (.int .i64 1), .lit (.int .i64 15)]

/-- 'lighterlaw10.DeflateBack': WHATEVER THE INPUT: true; the input reads as it did. -/
def deflateBackSpec : ChangeSpec := { name := "deflateBack", fn := fun _ => fun
  | [d1, d2] => { results := [.lit (.bool true)], args := [d1, d2] }
  | _ => none }
def deflateBackRow : OpenClaim := { program := "ytmpokiflhijnoaagreatdoor", sum := "24ce81d0458d6a85947bbf1128c9e3483719d0d04439fcff0ffa76d100fecdec", func := "lighter/lighterlaw10.DeflateBack", spec := "deflateBack", unfollowed := true, recurses := true, named := ["lighter/match.depths", "lighter/block.order"], apart := false, laid := [("lighter/match.depths", laid_lighter_match_depths), ("lighter/block.order", laid_lighter_block_order)] }
def DeflateBackSaid : Prop := deflateBackRow.holds Tryz.pinned (OpenSpec.ofChange deflateBackSpec)

/-- ITS FALSE NEIGHBOUR: 'it returns false'. Refute it at one input. -/
def deflateBackWrong : ChangeSpec := { name := "deflateBack", fn := fun _ => fun
  | [d1, d2] => { results := [.lit (.bool false)], args := [d1, d2] }
  | _ => none }
def DeflateBackWrongFalsely : Prop := deflateBackRow.holds Tryz.pinned (OpenSpec.ofChange deflateBackWrong)

/-- 'lighterlaw10.DeflateFlushes': WHATEVER THE INPUT: true; the input reads as it did. -/
def deflateFlushesSpec : ChangeSpec := { name := "deflateFlushes", fn := fun _ => fun
  | [d1, d2, d3] => { results := [.lit (.bool true)], args := [d1, d2, d3] }
  | _ => none }
def deflateFlushesRow : OpenClaim := { program := "ytmpokiflhijnoaagreatdoor", sum := "24ce81d0458d6a85947bbf1128c9e3483719d0d04439fcff0ffa76d100fecdec", func := "lighter/lighterlaw10.DeflateFlushes", spec := "deflateFlushes", inPlace := ["internal/abi.NoEscape"], unfollowed := true, recurses := true, named := ["lighter/match.depths", "lighter/block.order", "lighter/inflate.order"], apart := false, laid := [("lighter/match.depths", laid_lighter_match_depths), ("lighter/block.order", laid_lighter_block_order), ("lighter/inflate.order", laid_lighter_inflate_order)] }
def DeflateFlushesSaid : Prop := deflateFlushesRow.holds Tryz.pinned (OpenSpec.ofChange deflateFlushesSpec)

/-- ITS FALSE NEIGHBOUR: 'it returns false'. Refute it at one input. -/
def deflateFlushesWrong : ChangeSpec := { name := "deflateFlushes", fn := fun _ => fun
  | [d1, d2, d3] => { results := [.lit (.bool false)], args := [d1, d2, d3] }
  | _ => none }
def DeflateFlushesWrongFalsely : Prop := deflateFlushesRow.holds Tryz.pinned (OpenSpec.ofChange deflateFlushesWrong)

/- THE SECOND FORM. 'bulk': how many values and letters a reading holds, each counted each time it is reached (what is shared counts as often as it is met; a slice's spare places count too). A statement '..UptoSaid' is the law's where the arguments, and the package variables that the reading takes, are together of bulk at most 1048576: NARROWER than '..Said'. Prove '..Said' where nothing that the law and all that it calls make is longer than what came in: it says more and counts as full. Else prove '..UptoSaid'. A law counts once. -/
mutual
def uptoBulk {H : Type} : DataW H → Nat
  | .lit (.string bytes) => bytes.length + 1
  | .lit _ => 1
  | .nil => 1
  | .ptr d => uptoBulk d + 1
  | .slice elems spare => uptoBulkAll elems + uptoBulkAll spare + 1
  | .agg parts => uptoBulkAll parts + 1
  | .iface _ d => uptoBulk d + 1
  | .map entries => uptoBulkEntries entries + 1
  | .held _ => 1
def uptoBulkAll {H : Type} : List (DataW H) → Nat
  | [] => 0
  | d :: r => uptoBulk d + uptoBulkAll r
def uptoBulkEntries {H : Type} : List (Lit × DataW H) → Nat
  | [] => 0
  | x :: r => uptoBulkEntry x + uptoBulkEntries r
def uptoBulkEntry {H : Type} : Lit × DataW H → Nat
  | (.string bytes, d) => bytes.length + uptoBulk d + 1
  | (_, d) => uptoBulk d + 1
 end
def uptoSmall : (H : Type) → List (DataW H) → Bool := fun _ ds => decide (uptoBulkAll ds ≤ 1048576)
def OpenSpec.upto (s : _root_.Go.ChangeSpec) : _root_.Go.OpenSpec := { _root_.Go.OpenSpec.ofChange s with cond := some uptoSmall }

/-- 'lighterlaw10.DeflateBack', WHERE WHAT IT READS IS OF BULK AT MOST 1048576: true; the input reads as it did. -/
def deflateBackUptoRow : OpenClaim := { program := "ytmpokiflhijnoaagreatdoor", sum := "24ce81d0458d6a85947bbf1128c9e3483719d0d04439fcff0ffa76d100fecdec", func := "lighter/lighterlaw10.DeflateBack", spec := "deflateBack", unfollowed := true, recurses := true, named := ["lighter/match.depths", "lighter/block.order"], apart := false, laid := [("lighter/match.depths", laid_lighter_match_depths), ("lighter/block.order", laid_lighter_block_order)], narrowed := true }
def DeflateBackUptoSaid : Prop := deflateBackUptoRow.holds Tryz.pinned (OpenSpec.upto deflateBackSpec)

/-- 'lighterlaw10.DeflateFlushes', WHERE WHAT IT READS IS OF BULK AT MOST 1048576: true; the input reads as it did. -/
def deflateFlushesUptoRow : OpenClaim := { program := "ytmpokiflhijnoaagreatdoor", sum := "24ce81d0458d6a85947bbf1128c9e3483719d0d04439fcff0ffa76d100fecdec", func := "lighter/lighterlaw10.DeflateFlushes", spec := "deflateFlushes", inPlace := ["internal/abi.NoEscape"], unfollowed := true, recurses := true, named := ["lighter/match.depths", "lighter/block.order", "lighter/inflate.order"], apart := false, laid := [("lighter/match.depths", laid_lighter_match_depths), ("lighter/block.order", laid_lighter_block_order), ("lighter/inflate.order", laid_lighter_inflate_order)], narrowed := true }
def DeflateFlushesUptoSaid : Prop := deflateFlushesUptoRow.holds Tryz.pinned (OpenSpec.upto deflateFlushesSpec)

end Rows
end Go.Proofs.YtmpokiflhijnoaaGreatDoor
