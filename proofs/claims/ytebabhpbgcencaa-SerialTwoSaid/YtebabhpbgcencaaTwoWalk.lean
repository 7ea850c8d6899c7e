/-
  SerialTwo's walk: the program answers as the document's Gap says, for every two numbers of 32 bits.
-/
import Derived.Test.YtebabhpbgcencaaBase
namespace Go.Proofs.Ytebabhpbgcencaa.Base
open Go.ChangeShapes Go.WideShapes Go.ChangeAt Go.RowKit
set_option linter.unusedVariables false
set_option linter.unusedSimpArgs false


theorem ref_calls (a b : Int) (w : World) (ha0 : 0 ≤ a) (ha1 : a < 4294967296) (hb0 : 0 ≤ b) (hb1 : b < 4294967296) :
    Calls Try.prog 8 #[.int .u32 a, .int .u32 b] w fun e w' => e = .returned (.int .i64 (gap a b)) ∧ w = w' := by
  rw [gap_eq]
  have e1 : wrap64 a = a := by unfold wrap64; omega
  have e2 : wrap64 b = b := by unfold wrap64; omega
  by_cases h : b - a < 0
  · by_cases h2 : b - a + 4294967296 ≥ 2147483648
    · have e : wrap32 ((b - a) % 4294967296) = b - a := by unfold wrap32; omega
      rw [e]; clear e
      go_enter Try.func8, Try.ntmps8
      go_wp2
      go_ret
      exact ⟨by congr 2 <;> (unfold wrap64; omega), rfl⟩
    · have e : wrap32 ((b - a) % 4294967296) = b - a + 4294967296 := by unfold wrap32; omega
      rw [e]; clear e
      go_enter Try.func8, Try.ntmps8
      go_wp2
      go_ret
      exact ⟨by congr 2 <;> (unfold wrap64; omega), rfl⟩
  · by_cases h2 : b - a ≥ 2147483648
    · have e : wrap32 ((b - a) % 4294967296) = b - a - 4294967296 := by unfold wrap32; omega
      rw [e]; clear e
      go_enter Try.func8, Try.ntmps8
      go_wp2
      go_ret
      exact ⟨by congr 2 <;> (unfold wrap64; omega), rfl⟩
    · have e : wrap32 ((b - a) % 4294967296) = b - a := by unfold wrap32; omega
      rw [e]; clear e
      go_enter Try.func8, Try.ntmps8
      go_wp2
      go_ret
      exact ⟨by congr 2 <;> (unfold wrap64; omega), rfl⟩

theorem two_calls (a b : Int) (w : World) (wa : (Lit.int .u32 a).wf = true) (wb : (Lit.int .u32 b).wf = true) :
    Calls Try.prog 3 #[.int .u32 a, .int .u32 b] w fun e w' => e = .returned (.bool true) ∧ Below w.heap.size w w' := by
  obtain ⟨ha0, ha1⟩ := u32_wf wa
  obtain ⟨hb0, hb1⟩ := u32_wf wb
  clear wa wb
  cases h : less a b with
  | true =>
    have hg : decide (0 < gap a b) = true := h
    have hm : mx a b = b := by simp [mx, h]
    go_enter Try.func3, Try.ntmps3
    go_wp2_with (first | (go_at_call 7; refine (speaks_calls _).mono ?_; rintro e w' ⟨rfl, rfl⟩) | (go_at_call 10; refine (less_calls _ _ _).mono ?_; rintro e w' ⟨rfl, rfl⟩) | (go_at_call 9; refine (gap_calls _ _ _).mono ?_; rintro e w' ⟨rfl, rfl⟩) | (go_at_call 11; refine (max_calls _ _ _).mono ?_; rintro e w' ⟨rfl, rfl⟩) | (go_at_call 12; refine (in_calls _ _ _ _).mono ?_; rintro e w' ⟨rfl, rfl⟩) | (go_at_call 8; refine (ref_calls _ _ _ (by assumption) (by assumption) (by assumption) (by assumption)).mono ?_; rintro e w' ⟨rfl, rfl⟩))
    go_ret
    exact ⟨rfl, Below.refl _ _⟩
  | false =>
    have hg : decide (0 < gap a b) = false := h
    have hm : mx a b = a := by simp [mx, h]
    go_enter Try.func3, Try.ntmps3
    go_wp2_with (first | (go_at_call 7; refine (speaks_calls _).mono ?_; rintro e w' ⟨rfl, rfl⟩) | (go_at_call 10; refine (less_calls _ _ _).mono ?_; rintro e w' ⟨rfl, rfl⟩) | (go_at_call 9; refine (gap_calls _ _ _).mono ?_; rintro e w' ⟨rfl, rfl⟩) | (go_at_call 11; refine (max_calls _ _ _).mono ?_; rintro e w' ⟨rfl, rfl⟩) | (go_at_call 12; refine (in_calls _ _ _ _).mono ?_; rintro e w' ⟨rfl, rfl⟩) | (go_at_call 8; refine (ref_calls _ _ _ (by assumption) (by assumption) (by assumption) (by assumption)).mono ?_; rintro e w' ⟨rfl, rfl⟩))
    go_ret
    exact ⟨rfl, Below.refl _ _⟩

end Go.Proofs.Ytebabhpbgcencaa.Base
