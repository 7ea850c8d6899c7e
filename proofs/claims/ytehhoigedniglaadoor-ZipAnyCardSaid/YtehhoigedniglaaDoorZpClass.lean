/-
  A region that draws its order, reads, and calls functions that only add memory: one walk, over the class of worlds that lie above a world.
-/
import Derived.Test.YtehhoigedniglaaDoorZpBlk
import Derived.BigQuiet
namespace Go.Proofs.YtehhoigedniglaaDoor.Zp
open Go.RowKit
set_option linter.unusedVariables false

theorem wp_region_class {P : Program} {C : World → Prop} {id : Nat} {Q : Exit → Act → World → Prop} {a : Act} {w : World} {l : List Oper} (hm : P.follows .mixedOrders = true) (hB : Region.lexB .any l.toArray = true)
    (hC : C w.drew) (h : wpQuiet P l.toArray C (fun a' => ∀ w', C w' → Q .normal a' w') l a) : (Code.region id l.toArray true).wp P Q a w :=
  wp_region_quiet (C := C) hm hB hC (by simpa using h)

/-- The worlds above W whose blocks below B are as they were in W, by a letter. -/
structure Above (B : Nat) (W : World) (U : Type) (f : U → World) : Prop where
  below : ∀ u, Below B W (f u)
  all : ∀ wx, Below B W wx → ∃ u, wx = f u
theorem above (B : Nat) (W : World) : ∃ (U : Type) (f : U → World), Above B W U f :=
  ⟨{wx : World // Below B W wx}, Subtype.val, fun u => u.2, fun wx h => ⟨⟨wx, h⟩, rfl⟩⟩
theorem Above.next {B : Nat} {W : World} {U : Type} {f : U → World} (h : Above B W U f) (hB : B ≤ W.heap.size) {u : U} {wx : World} (hb : Below (f u).heap.size (f u) wx) : ∃ u', wx = f u' :=
  h.all _ ((h.below u).trans (hb.mono (Nat.le_trans hB (h.below u).size)))
theorem Above.cell {B : Nat} {W : World} {U : Type} {f : U → World} (h : Above B W U f) {b : Nat} {cs : Array Value} {T : Nat} (hk : Blk b cs T W) (hb : b < B) (k : Nat) (v : Value) (hv : cs[k]? = some v) (u : U) : (f u).cell? ⟨b, k, none⟩ = some v :=
  ((hk.under hb (h.below u)).cell k).trans hv
theorem Above.drew {B : Nat} {W : World} {U : Type} {f : U → World} (h : Above B W U f) (u : U) : ∃ u', (f u).drew = f u' := h.all _ (h.below u).drew
theorem Above.start {B : Nat} {W : World} {U : Type} {f : U → World} (h : Above B W U f) : ∃ u, W = f u := h.all _ (Below.refl _ _)
end Go.Proofs.YtehhoigedniglaaDoor.Zp
