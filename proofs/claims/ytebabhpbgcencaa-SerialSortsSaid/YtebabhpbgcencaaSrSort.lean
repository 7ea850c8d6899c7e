/-
  Serial: Sort answers the numbers in order, where they are near enough.
-/
import Derived.Test.YtebabhpbgcencaaSrBase
import Derived.Test.YtebabhpbgcencaaShelf
import Derived.Lib.Hide
import Derived.WalkLawsBesides
import Derived.WalkSpells
import Derived.BigQuiet
import Derived.Deep.QuietTactic
import Derived.Deep.AppendLies
import Derived.OwnWalk
import Derived.RangeFuncOwn
namespace Go.Proofs.Ytebabhpbgcencaa.Sr
open Go.RowKit Go.Shelf Go.Proofs
set_option linter.unusedVariables false
set_option linter.unusedSimpArgs false

theorem gap_range (a b : Int) : -2147483648 ≤ gap a b ∧ gap a b < 2147483648 := by
  rw [gap_eq]
  unfold wrap32
  omega

/-- How two numbers stand, seen from a third one. -/
def cf (z a b : Int) : Int := gap z a - gap z b

theorem ltOf_cf (z x y : Int) : ltOf (cf z) x y = decide (gap z x - gap z y < 0) := rfl

theorem swo (z : Int) : Sort.SWO (ltOf (cf z)) := by
  constructor
  · intro x
    rw [ltOf_cf]
    simp
  · intro x y u h1 h2
    rw [ltOf_cf] at *
    have h1 := of_decide_eq_true h1
    have h2 := of_decide_eq_true h2
    exact decide_eq_true (by omega)
  · intro x y u h1 h2
    rw [ltOf_cf] at *
    have h1 := of_decide_eq_false h1
    have h2 := of_decide_eq_false h2
    exact decide_eq_false (by omega)

def encU (x : Int) : Value := .int .u32 x
theorem oneU : OneCell encU := fun _ => rfl

theorem gap_same (a b : Int) (w : World) : Calls Try.prog 9 #[.int .u32 a, .int .u32 b] w fun e w' => e = .returned (.int .i64 (gap a b)) ∧ w' = w :=
  (gap_calls a b w).mono fun _ _ ⟨h1, h2⟩ => ⟨h1, h2.symm⟩

set_option maxHeartbeats 1000000 in
theorem cmp_calls (B g o n c : Nat) (z x y : Int) (w : World) (h1 : w.cell? ⟨B, 0, none⟩ = some (.slice (some ⟨g, o, none⟩) n c)) (hn : 0 < n) (h2 : w.cell? ⟨g, o, none⟩ = some (.int .u32 z)) :
    Calls Try.prog 16 #[.int .u32 x, .int .u32 y, .pointer (some ⟨B, 0, none⟩)] w fun e w' => e = .returned (.int .i64 (cf z x y)) ∧ ∃ q, w' = w.drewN q := by
  have e1 : wrap64 (gap z x - gap z y) = cf z x y := by
    have := gap_range z x
    have := gap_range z y
    unfold wrap64 cf
    omega
  have e1' : IntKind.i64.wrap (gap z x - gap z y) = cf z x y := by
    have := gap_range z x
    have := gap_range z y
    rw [IntKind.wrap_i64]
    unfold cf
    omega
  have hn' : (0 : Int) < (n : Int) := by omega
  go_enter Try.func16, Try.ntmps16
  go_wp2
  go_quiet ((first | (go_at_call 9; exact Calls.quiet_of_same (gap_same _ _ _))))
  go_wp2
  go_ret
  exact ⟨rfl, _, rfl⟩

end Go.Proofs.Ytebabhpbgcencaa.Sr
