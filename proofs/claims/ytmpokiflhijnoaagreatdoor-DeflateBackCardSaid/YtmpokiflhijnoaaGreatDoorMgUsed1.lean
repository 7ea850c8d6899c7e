/-
  Merge: the closure that orders the symbols.
-/
import Derived.Test.YtmpokiflhijnoaaGreatDoorMgBase
namespace Go.Proofs.YtmpokiflhijnoaaGreatDoor.Mg
open Go.ChangeShapes Go.WideShapes Go.ChangeAt Go.RowKit Go.Shelf Go.Proofs
set_option linter.unusedVariables false
set_option linter.unusedSimpArgs false

set_option maxHeartbeats 1000000 in
theorem used1_calls (B g o n c : Nat) (x y p q : Int) (w : World) (h1 : w.cell? ⟨B, 0, none⟩ = some (.slice (some ⟨g, o, none⟩) n c)) (hx : 0 ≤ x ∧ x < n) (hy : 0 ≤ y ∧ y < n)
    (h2 : w.cell? ⟨g, o + x.toNat, none⟩ = some (.int .i64 p)) (h3 : w.cell? ⟨g, o + y.toNat, none⟩ = some (.int .i64 q)) :
    Calls Tryz.prog 124 #[.int .i64 x, .int .i64 y, .pointer (some ⟨B, 0, none⟩)] w fun e w' => e = .returned (.int .i64 (or2 (Lib.compareInt p q) (Lib.compareInt y x))) ∧ w' = (w.drewN 1).alloc (.cells #[.int .i64 (Lib.compareInt p q), .int .i64 (Lib.compareInt y x)] 3) := by
  obtain ⟨x1, x2⟩ := hx
  obtain ⟨y1, y2⟩ := hy
  have HT := two_cells w (.int .i64 (Lib.compareInt p q)) (.int .i64 (Lib.compareInt y x)) 3
  go_enter Tryz.func124, Tryz.ntmps124
  go_wp2
  go_region_with ((first | (go_at_call 126; refine (Tryz.cmp_Compare_int _ _ _).mono ?_; rintro e w' ⟨rfl, rfl⟩) | (go_at_call 125; refine (or_calls _ _ _ _ HT.1 HT.2).mono ?_; rintro e w' ⟨rfl, rfl⟩)))
  all_goals go_wp2
  all_goals go_ret
  all_goals exact ⟨rfl, rfl⟩
end Go.Proofs.YtmpokiflhijnoaaGreatDoor.Mg
