/-
  Serial: speaks answers true.
-/
import Derived.Test.YtebabhpbgcencaaSrBase
namespace Go.Proofs.Ytebabhpbgcencaa.Sr
open Go.ChangeShapes Go.WideShapes Go.ChangeAt Go.RowKit

theorem s1 : less 4294967295 0 = true := by decide +kernel
theorem s2 : less 0 4294967295 = false := by decide +kernel
theorem s3 : gap 4294967295 1 = 2 := by decide +kernel
theorem s4 : mx 4294967295 0 = 0 := by decide +kernel

theorem speaks_calls (w : World) : Calls Try.prog 7 #[] w fun e w' => e = .returned (.bool true) ∧ w = w' := by
  have h1 := s1
  have h2 := s2
  have h3 := s3
  have h4 := s4
  go_enter Try.func7, Try.ntmps7
  go_wp2_with (first | (go_at_call 10; refine (less_calls _ _ _).mono ?_; rintro e w' ⟨rfl, rfl⟩) | (go_at_call 9; refine (gap_calls _ _ _).mono ?_; rintro e w' ⟨rfl, rfl⟩) | (go_at_call 11; refine (max_calls _ _ _).mono ?_; rintro e w' ⟨rfl, rfl⟩))
  go_ret
  exact ⟨rfl, rfl⟩

end Go.Proofs.Ytebabhpbgcencaa.Sr
