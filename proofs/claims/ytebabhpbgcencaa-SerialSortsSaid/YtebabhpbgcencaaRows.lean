/-
  No cell of these rows narrows 'for every input' (looked for: loops, veiled, ifaces, maps, wideKeys, modest, calm, conditions, laid).
  DERIVED. THE GIVEN ROWS OF THIS SEAT. 4 by the template 'for every input the law returns true; each argument reads behind the call as it read before'; 0 by the template 'total and deterministic' (their statements: YtebabhpbgcencaaTotals.lean).
  GIVEN WITH THE SEED: the statements are not yours to turn. If you find one false, say at which input.
  Laid BY PROGRAM, IN A SANDBOX (cutbox-rows.mjs): the forced cells as the released guide's own fill.sh prints them over the translation 9aaa956356212ae7… (all of the seat's roots in one cut). By AI agents, Wed Nov 11 2026. No macro, syntax, notation, axiom, sorry.
-/
import Derived.Test.YtebabhpbgcencaaChecked
import GoSem.Claim
import GoSem.ClaimJoined
import GoSem.ClaimMapViews
import Derived.JoinedTies
import Derived.KernelRfl
namespace Go.Proofs.Ytebabhpbgcencaa
/- THE CELL 'sum', in the pinned program and in every row, IS THE sha256 OF THE DUMP (.gsa) THAT YtebabhpbgcencaaProg.lean LOADS. Nothing in Lean hashes anything: it is a label: what it is worth is what the hold of that sum in a sandbox is worth. -/
noncomputable def Try.pinned : Pinned := { name := "ytebabhpbgcencaa", sum := "9aaa956356212ae7b313fec07d94c69f07dc945141505f4db06973b7c643ab3d", checked := Try.checked }
namespace Rows
def none {H : Type} : Left H := { results := [], args := [] }

/-- 'lighterlaw21.SerialTwo': WHATEVER THE INPUT: true; the input reads as it did. -/
def serialTwoSpec : ChangeSpec := { name := "serialTwo", fn := fun _ => fun
  | [d1, d2] => { results := [.lit (.bool true)], args := [d1, d2] }
  | _ => none }
def serialTwoRow : OpenClaim := { program := "ytebabhpbgcencaa", sum := "9aaa956356212ae7b313fec07d94c69f07dc945141505f4db06973b7c643ab3d", func := "lighter/lighterlaw21.SerialTwo", spec := "serialTwo", apart := false }
def SerialTwoSaid : Prop := serialTwoRow.holds Try.pinned (OpenSpec.ofChange serialTwoSpec)

/-- ITS FALSE NEIGHBOUR: 'it returns false'. Refute it at one input. -/
def serialTwoWrong : ChangeSpec := { name := "serialTwo", fn := fun _ => fun
  | [d1, d2] => { results := [.lit (.bool false)], args := [d1, d2] }
  | _ => none }
def SerialTwoWrongFalsely : Prop := serialTwoRow.holds Try.pinned (OpenSpec.ofChange serialTwoWrong)

/-- 'lighterlaw21.SerialIn': WHATEVER THE INPUT: true; the input reads as it did. -/
def serialInSpec : ChangeSpec := { name := "serialIn", fn := fun _ => fun
  | [d1, d2, d3] => { results := [.lit (.bool true)], args := [d1, d2, d3] }
  | _ => none }
def serialInRow : OpenClaim := { program := "ytebabhpbgcencaa", sum := "9aaa956356212ae7b313fec07d94c69f07dc945141505f4db06973b7c643ab3d", func := "lighter/lighterlaw21.SerialIn", spec := "serialIn", apart := false }
def SerialInSaid : Prop := serialInRow.holds Try.pinned (OpenSpec.ofChange serialInSpec)

/-- ITS FALSE NEIGHBOUR: 'it returns false'. Refute it at one input. -/
def serialInWrong : ChangeSpec := { name := "serialIn", fn := fun _ => fun
  | [d1, d2, d3] => { results := [.lit (.bool false)], args := [d1, d2, d3] }
  | _ => none }
def SerialInWrongFalsely : Prop := serialInRow.holds Try.pinned (OpenSpec.ofChange serialInWrong)

/-- 'lighterlaw21.SerialRounds': WHATEVER THE INPUT: true; the input reads as it did. -/
def serialRoundsSpec : ChangeSpec := { name := "serialRounds", fn := fun _ => fun
  | [d1, d2] => { results := [.lit (.bool true)], args := [d1, d2] }
  | _ => none }
def serialRoundsRow : OpenClaim := { program := "ytebabhpbgcencaa", sum := "9aaa956356212ae7b313fec07d94c69f07dc945141505f4db06973b7c643ab3d", func := "lighter/lighterlaw21.SerialRounds", spec := "serialRounds", apart := false }
def SerialRoundsSaid : Prop := serialRoundsRow.holds Try.pinned (OpenSpec.ofChange serialRoundsSpec)

/-- ITS FALSE NEIGHBOUR: 'it returns false'. Refute it at one input. -/
def serialRoundsWrong : ChangeSpec := { name := "serialRounds", fn := fun _ => fun
  | [d1, d2] => { results := [.lit (.bool false)], args := [d1, d2] }
  | _ => none }
def SerialRoundsWrongFalsely : Prop := serialRoundsRow.holds Try.pinned (OpenSpec.ofChange serialRoundsWrong)

/-- 'lighterlaw21.SerialSorts': WHATEVER THE INPUT: true; the input reads as it did. -/
def serialSortsSpec : ChangeSpec := { name := "serialSorts", fn := fun _ => fun
  | [d] => { results := [.lit (.bool true)], args := [d] }
  | _ => none }
def serialSortsRow : OpenClaim := { program := "ytebabhpbgcencaa", sum := "9aaa956356212ae7b313fec07d94c69f07dc945141505f4db06973b7c643ab3d", func := "lighter/lighterlaw21.SerialSorts", spec := "serialSorts", unfollowed := true, recurses := true, apart := false }
def SerialSortsSaid : Prop := serialSortsRow.holds Try.pinned (OpenSpec.ofChange serialSortsSpec)

/-- ITS FALSE NEIGHBOUR: 'it returns false'. Refute it at one input. -/
def serialSortsWrong : ChangeSpec := { name := "serialSorts", fn := fun _ => fun
  | [d] => { results := [.lit (.bool false)], args := [d] }
  | _ => none }
def SerialSortsWrongFalsely : Prop := serialSortsRow.holds Try.pinned (OpenSpec.ofChange serialSortsWrong)

/- THE SECOND FORM. 'bulk': how many values and letters a reading holds, each counted each time it is reached (what is shared counts as often as it is met; a slice's spare places count too). A statement '..UptoSaid' is the law's where the arguments, and the package variables that the reading takes, are together of bulk at most 1048576: NARROWER than '..Said'. Prove '..Said' where nothing that the law and all that it calls make is longer than what came in: it says more and counts as full. Else prove '..UptoSaid'. A law counts once. -/
mutual
def uptoBulk {H : Type} : DataW H → Nat
  | .lit (.string bytes) => bytes.length + 1
  | .lit _ => 1
  | .nil => 1
  | .ptr d => uptoBulk d + 1
  | .slice elems spare => uptoBulkAll elems + uptoBulkAll spare + 1
  | .agg parts => uptoBulkAll parts + 1
  | .iface _ d => uptoBulk d + 1
  | .map entries => uptoBulkEntries entries + 1
  | .held _ => 1
def uptoBulkAll {H : Type} : List (DataW H) → Nat
  | [] => 0
  | d :: r => uptoBulk d + uptoBulkAll r
def uptoBulkEntries {H : Type} : List (Lit × DataW H) → Nat
  | [] => 0
  | x :: r => uptoBulkEntry x + uptoBulkEntries r
def uptoBulkEntry {H : Type} : Lit × DataW H → Nat
  | (.string bytes, d) => bytes.length + uptoBulk d + 1
  | (_, d) => uptoBulk d + 1
 end
def uptoSmall : (H : Type) → List (DataW H) → Bool := fun _ ds => decide (uptoBulkAll ds ≤ 1048576)
def OpenSpec.upto (s : _root_.Go.ChangeSpec) : _root_.Go.OpenSpec := { _root_.Go.OpenSpec.ofChange s with cond := some uptoSmall }

/-- 'lighterlaw21.SerialTwo', WHERE WHAT IT READS IS OF BULK AT MOST 1048576: true; the input reads as it did. -/
def serialTwoUptoRow : OpenClaim := { program := "ytebabhpbgcencaa", sum := "9aaa956356212ae7b313fec07d94c69f07dc945141505f4db06973b7c643ab3d", func := "lighter/lighterlaw21.SerialTwo", spec := "serialTwo", apart := false, narrowed := true }
def SerialTwoUptoSaid : Prop := serialTwoUptoRow.holds Try.pinned (OpenSpec.upto serialTwoSpec)

/-- 'lighterlaw21.SerialIn', WHERE WHAT IT READS IS OF BULK AT MOST 1048576: true; the input reads as it did. -/
def serialInUptoRow : OpenClaim := { program := "ytebabhpbgcencaa", sum := "9aaa956356212ae7b313fec07d94c69f07dc945141505f4db06973b7c643ab3d", func := "lighter/lighterlaw21.SerialIn", spec := "serialIn", apart := false, narrowed := true }
def SerialInUptoSaid : Prop := serialInUptoRow.holds Try.pinned (OpenSpec.upto serialInSpec)

/-- 'lighterlaw21.SerialRounds', WHERE WHAT IT READS IS OF BULK AT MOST 1048576: true; the input reads as it did. -/
def serialRoundsUptoRow : OpenClaim := { program := "ytebabhpbgcencaa", sum := "9aaa956356212ae7b313fec07d94c69f07dc945141505f4db06973b7c643ab3d", func := "lighter/lighterlaw21.SerialRounds", spec := "serialRounds", apart := false, narrowed := true }
def SerialRoundsUptoSaid : Prop := serialRoundsUptoRow.holds Try.pinned (OpenSpec.upto serialRoundsSpec)

/-- 'lighterlaw21.SerialSorts', WHERE WHAT IT READS IS OF BULK AT MOST 1048576: true; the input reads as it did. -/
def serialSortsUptoRow : OpenClaim := { program := "ytebabhpbgcencaa", sum := "9aaa956356212ae7b313fec07d94c69f07dc945141505f4db06973b7c643ab3d", func := "lighter/lighterlaw21.SerialSorts", spec := "serialSorts", unfollowed := true, recurses := true, apart := false, narrowed := true }
def SerialSortsUptoSaid : Prop := serialSortsUptoRow.holds Try.pinned (OpenSpec.upto serialSortsSpec)

end Rows
end Go.Proofs.Ytebabhpbgcencaa
