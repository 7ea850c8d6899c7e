/-
  SerialIn's walk: In answers whether the distance on the round is below the count.
-/
import Derived.Test.YtebabhpbgcencaaBase
namespace Go.Proofs.Ytebabhpbgcencaa.Base
open Go.ChangeShapes Go.WideShapes Go.ChangeAt Go.RowKit
set_option linter.unusedVariables false
set_option linter.unusedSimpArgs false


theorem sin_calls (a b n : Int) (w : World) (wa : (Lit.int .u32 a).wf = true) (wb : (Lit.int .u32 b).wf = true) (wn : (Lit.int .i64 n).wf = true) :
    Calls Try.prog 4 #[.int .u32 a, .int .u32 b, .int .i64 n] w fun e w' => e = .returned (.bool true) ∧ Below w.heap.size w w' := by
  obtain ⟨ha0, ha1⟩ := u32_wf wa
  obtain ⟨hb0, hb1⟩ := u32_wf wb
  obtain ⟨hn0, hn1⟩ := i64_wf wn
  clear wa wb wn
  have e1 : wrap64 a = a := by unfold wrap64; omega
  have e2 : wrap64 b = b := by unfold wrap64; omega
  by_cases h : a - b < 0
  · have hi : inB a b n = decide (a - b + 4294967296 < n) := by
      have e : (a - b) % 4294967296 = a - b + 4294967296 := by omega
      unfold inB
      rw [e, Bool.eq_iff_iff]
      simp only [Bool.and_eq_true, decide_eq_true_eq]
      omega
    go_enter Try.func4, Try.ntmps4
    go_wp2_with (first | (go_at_call 7; refine (speaks_calls _).mono ?_; rintro e w' ⟨rfl, rfl⟩) | (go_at_call 10; refine (less_calls _ _ _).mono ?_; rintro e w' ⟨rfl, rfl⟩) | (go_at_call 9; refine (gap_calls _ _ _).mono ?_; rintro e w' ⟨rfl, rfl⟩) | (go_at_call 11; refine (max_calls _ _ _).mono ?_; rintro e w' ⟨rfl, rfl⟩) | (go_at_call 12; refine (in_calls _ _ _ _).mono ?_; rintro e w' ⟨rfl, rfl⟩) | (go_at_call 8; refine (ref_calls _ _ _ (by assumption) (by assumption) (by assumption) (by assumption)).mono ?_; rintro e w' ⟨rfl, rfl⟩))
    go_ret
    exact ⟨by simp [hi], Below.refl _ _⟩
  · have hi : inB a b n = decide (a - b < n) := by
      have e : (a - b) % 4294967296 = a - b := by omega
      unfold inB
      rw [e, Bool.eq_iff_iff]
      simp only [Bool.and_eq_true, decide_eq_true_eq]
      omega
    go_enter Try.func4, Try.ntmps4
    go_wp2_with (first | (go_at_call 7; refine (speaks_calls _).mono ?_; rintro e w' ⟨rfl, rfl⟩) | (go_at_call 10; refine (less_calls _ _ _).mono ?_; rintro e w' ⟨rfl, rfl⟩) | (go_at_call 9; refine (gap_calls _ _ _).mono ?_; rintro e w' ⟨rfl, rfl⟩) | (go_at_call 11; refine (max_calls _ _ _).mono ?_; rintro e w' ⟨rfl, rfl⟩) | (go_at_call 12; refine (in_calls _ _ _ _).mono ?_; rintro e w' ⟨rfl, rfl⟩) | (go_at_call 8; refine (ref_calls _ _ _ (by assumption) (by assumption) (by assumption) (by assumption)).mono ?_; rintro e w' ⟨rfl, rfl⟩))
    go_ret
    exact ⟨by simp [hi], Below.refl _ _⟩

end Go.Proofs.Ytebabhpbgcencaa.Base
