/-
  Serial: what the small functions of layer 21 answer, and that speaks answers true.
-/
import Derived.Test.YtebabhpbgcencaaProg
import Derived.WalkKit
import Derived.ProofKit
import Derived.OpenShut
import Derived.Below
import Derived.SizedLaws
import Derived.Laws.BitsLemmas
namespace Go.Proofs.Ytebabhpbgcencaa.Sr
open Go.ChangeShapes Go.WideShapes Go.ChangeAt Go.RowKit

theorem u32_wf {a : Int} (h : (Lit.int .u32 a).wf = true) : 0 ≤ a ∧ a < 4294967296 := by
  have h' : IntKind.u32.min ≤ a ∧ a ≤ IntKind.u32.max := by simpa [Lit.wf] using h
  have e1 : IntKind.u32.min = 0 := rfl
  have e2 : IntKind.u32.max = 4294967295 := rfl
  rw [e1, e2] at h'
  omega

theorem i64_wf {a : Int} (h : (Lit.int .i64 a).wf = true) : -9223372036854775808 ≤ a ∧ a < 9223372036854775808 := by
  have h' : IntKind.i64.min ≤ a ∧ a ≤ IntKind.i64.max := by simpa [Lit.wf] using h
  have e1 : IntKind.i64.min = -9223372036854775808 := rfl
  have e2 : IntKind.i64.max = 9223372036854775807 := rfl
  rw [e1, e2] at h'
  omega

/-- How far it is from one number to another one, as Go reckons it. -/
def gap (a b : Int) : Int := wrap64 (wrap32 ((b - a) % 4294967296))

theorem gap_eq (a b : Int) : gap a b = wrap32 ((b - a) % 4294967296) := by
  unfold gap wrap64 wrap32
  omega

theorem gap_calls (a b : Int) (w : World) : Calls Try.prog 9 #[.int .u32 a, .int .u32 b] w fun e w' => e = .returned (.int .i64 (gap a b)) ∧ w = w' := by
  go_enter Try.func9, Try.ntmps9
  go_wp2
  go_ret
  exact ⟨rfl, rfl⟩

def less (a b : Int) : Bool := decide (0 < gap a b)

theorem less_calls (a b : Int) (w : World) : Calls Try.prog 10 #[.int .u32 a, .int .u32 b] w fun e w' => e = .returned (.bool (less a b)) ∧ w = w' := by
  go_enter Try.func10, Try.ntmps10
  go_wp2_with (go_at_call 9; refine (gap_calls _ _ _).mono ?_; rintro e w' ⟨rfl, rfl⟩)
  go_ret
  exact ⟨rfl, rfl⟩

theorem max_yes (a b : Int) (w : World) (h : less a b = true) : Calls Try.prog 11 #[.int .u32 a, .int .u32 b] w fun e w' => e = .returned (.int .u32 b) ∧ w = w' := by
  go_enter Try.func11, Try.ntmps11
  go_wp2_with (go_at_call 10; refine (less_calls _ _ _).mono ?_; rintro e w' ⟨rfl, rfl⟩)
  go_ret
  exact ⟨rfl, rfl⟩

theorem max_no (a b : Int) (w : World) (h : less a b = false) : Calls Try.prog 11 #[.int .u32 a, .int .u32 b] w fun e w' => e = .returned (.int .u32 a) ∧ w = w' := by
  go_enter Try.func11, Try.ntmps11
  go_wp2_with (go_at_call 10; refine (less_calls _ _ _).mono ?_; rintro e w' ⟨rfl, rfl⟩)
  go_ret
  exact ⟨rfl, rfl⟩

def mx (a b : Int) : Int := if less a b then b else a

theorem max_calls (a b : Int) (w : World) : Calls Try.prog 11 #[.int .u32 a, .int .u32 b] w fun e w' => e = .returned (.int .u32 (mx a b)) ∧ w = w' := by
  unfold mx
  cases h : less a b with
  | true => exact max_yes a b w h
  | false => exact max_no a b w h

def inB (a f n : Int) : Bool := decide (0 < n) && decide ((a - f) % 4294967296 < n)

theorem in_calls (a f n : Int) (w : World) : Calls Try.prog 12 #[.int .u32 a, .int .u32 f, .int .i64 n] w fun e w' => e = .returned (.bool (inB a f n)) ∧ w = w' := by
  unfold inB
  by_cases h : 0 < n
  · have h' : decide (0 < n) = true := by simpa using h
    clear h
    go_enter Try.func12, Try.ntmps12
    go_wp2
    go_ret
    exact ⟨by simp [h'], rfl⟩
  · have h' : decide (0 < n) = false := by simpa using h
    clear h
    go_enter Try.func12, Try.ntmps12
    go_wp2
    go_ret
    exact ⟨by simp [h'], rfl⟩

end Go.Proofs.Ytebabhpbgcencaa.Sr
