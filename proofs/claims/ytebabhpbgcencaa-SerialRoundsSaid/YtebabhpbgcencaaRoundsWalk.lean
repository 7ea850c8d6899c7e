/-
  SerialRounds' walk: a step of 1 to 2^31 - 1 on comes behind, wherever in the round one is.
-/
import Derived.Test.YtebabhpbgcencaaBase
namespace Go.Proofs.Ytebabhpbgcencaa.Base
open Go.ChangeShapes Go.WideShapes Go.ChangeAt Go.RowKit
set_option linter.unusedVariables false
set_option linter.unusedSimpArgs false


theorem and_bound (a : Int) : 0 ≤ Go.bits .and .i64 a 2147483646 ∧ Go.bits .and .i64 a 2147483646 ≤ 2147483646 := by
  have h : ((BitVec.ofInt 64 a &&& BitVec.ofInt 64 2147483646).toNat) ≤ 2147483646 := by
    rw [BitVec.toNat_and]
    exact Nat.le_trans Nat.and_le_right (by decide)
  have e : Go.bits .and .i64 a 2147483646 = IntKind.i64.wrap ((BitVec.ofInt 64 a &&& BitVec.ofInt 64 2147483646).toNat : Int) := rfl
  rw [e, IntKind.wrap_i64]
  omega

theorem rounds_core (a n0 n b : Int) (w : World) (hn : wrap64 (1 + Go.bits .and .i64 n0 2147483646) = n) (hb : (a + n % 4294967296) % 4294967296 = b) (hb' : (a + n) % 4294967296 = b)
    (l1 : less a b = true) (l2 : less b a = false) (g1 : gap a b = n) (g2 : gap b a = wrap64 (-n)) (i1 : inB a a n = true) (i2 : inB b a n = false) (m1 : mx a b = b) (m2 : mx b a = b) :
    Calls Try.prog 5 #[.int .u32 a, .int .i64 n0] w fun e w' => e = .returned (.bool true) ∧ w = w' := by
  go_enter Try.func5, Try.ntmps5
  go_wp2_with (first | (go_at_call 7; refine (speaks_calls _).mono ?_; rintro e w' ⟨rfl, rfl⟩) | (go_at_call 10; refine (less_calls _ _ _).mono ?_; rintro e w' ⟨rfl, rfl⟩) | (go_at_call 9; refine (gap_calls _ _ _).mono ?_; rintro e w' ⟨rfl, rfl⟩) | (go_at_call 11; refine (max_calls _ _ _).mono ?_; rintro e w' ⟨rfl, rfl⟩) | (go_at_call 12; refine (in_calls _ _ _ _).mono ?_; rintro e w' ⟨rfl, rfl⟩) | (go_at_call 8; refine (ref_calls _ _ _ (by assumption) (by assumption) (by assumption) (by assumption)).mono ?_; rintro e w' ⟨rfl, rfl⟩))
  go_ret
  exact ⟨rfl, rfl⟩

theorem rounds_calls (a n0 : Int) (w : World) (wa : (Lit.int .u32 a).wf = true) (wn : (Lit.int .i64 n0).wf = true) :
    Calls Try.prog 5 #[.int .u32 a, .int .i64 n0] w fun e w' => e = .returned (.bool true) ∧ Below w.heap.size w w' := by
  obtain ⟨ha0, ha1⟩ := u32_wf wa
  have hm := and_bound n0
  obtain ⟨n, hn1, hn2, en⟩ : ∃ n : Int, 1 ≤ n ∧ n ≤ 2147483647 ∧ wrap64 (1 + Go.bits .and .i64 n0 2147483646) = n := ⟨_, by unfold wrap64; omega, by unfold wrap64; omega, rfl⟩
  obtain ⟨b, hb0, hb1, eb⟩ : ∃ b : Int, 0 ≤ b ∧ b < 4294967296 ∧ (a + n) % 4294967296 = b := ⟨_, by omega, by omega, rfl⟩
  have e1 : gap a b = n := by rw [gap_eq]; unfold wrap32; omega
  have e2 : gap b a = -n := by rw [gap_eq]; unfold wrap32; omega
  have l1 : less a b = true := by unfold less; rw [e1]; exact decide_eq_true (by omega)
  have l2 : less b a = false := by unfold less; rw [e2]; exact decide_eq_false (by omega)
  refine (rounds_core a n0 n b w en (by omega) eb l1 l2 e1 (by rw [e2]; unfold wrap64; omega) ?_ ?_ (by simp [mx, l1]) (by simp [mx, l2])).mono ?_
  · unfold inB
    rw [Bool.and_eq_true, decide_eq_true_eq, decide_eq_true_eq]
    omega
  · unfold inB
    rw [Bool.and_eq_false_iff, decide_eq_false_iff_not, decide_eq_false_iff_not]
    omega
  · rintro e w' ⟨rfl, rfl⟩
    exact ⟨rfl, Below.refl _ _⟩

end Go.Proofs.Ytebabhpbgcencaa.Base
