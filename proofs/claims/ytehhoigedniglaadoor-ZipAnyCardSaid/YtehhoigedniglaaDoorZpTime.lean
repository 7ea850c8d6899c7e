/-
  Times: leap years, days of a month, which times are good; the program's and the reference's.
-/
import Derived.Test.YtehhoigedniglaaDoorZpGet
import Derived.BigQuiet
namespace Go.Proofs.YtehhoigedniglaaDoor.Zp
open Go.RowKit
set_option linter.unusedVariables false
set_option linter.unusedSimpArgs false

structure Tm where
  (y mo d h mi s : Int)
deriving DecidableEq
def Tm.val (t : Tm) : Value := .agg #[.int .i64 t.y, .int .i64 t.mo, .int .i64 t.d, .int .i64 t.h, .int .i64 t.mi, .int .i64 t.s]

def leapB (y : Int) : Bool := (y.tmod 4 == 0) && ((y.tmod 100 != 0) || (y.tmod 400 == 0))

theorem leap_calls (y : Int) (w : World) : Calls Tryd.prog 57 #[.int .i64 y] w fun e w' => e = .returned (.bool (leapB y)) ∧ w = w' := by
  have HL := Lib.hid (show leapB y = ((y.tmod 4 == 0) && ((y.tmod 100 != 0) || (y.tmod 400 == 0))) from rfl)
  cases h1 : (y.tmod 4 == 0) <;> cases h2 : (y.tmod 100 != 0) <;> cases h3 : (y.tmod 400 == 0)
  all_goals
    rw [h1, h2, h3] at HL
    go_enter Tryd.func57, Tryd.ntmps57
    go_wp2
    go_ret
    exact ⟨by rw [HL.out]; rfl, rfl⟩

def daysI (y m : Int) : Int :=
  if m = 4 ∨ m = 6 ∨ m = 9 ∨ m = 11 then 30
  else if m = 2 then (if leapB y then 29 else 28)
  else if m < 1 ∨ 12 < m then 0
  else 31

set_option maxHeartbeats 1000000 in
theorem days_calls (y m : Int) (w : World) : Calls Tryd.prog 38 #[.int .i64 y, .int .i64 m] w fun e w' => e = .returned (.int .i64 (daysI y m)) ∧ w = w' := by
  by_cases h4 : m = 4 ∨ m = 6 ∨ m = 9 ∨ m = 11
  · have HL : Hid (daysI y m = 30) := Lib.hid (by unfold daysI; rw [if_pos h4])
    rcases h4 with rfl | rfl | rfl | rfl
    all_goals
      go_enter Tryd.func38, Tryd.ntmps38
      go_wp2
      go_ret
      exact ⟨by rw [HL.out]; rfl, rfl⟩
  · by_cases h2 : m = 2
    · subst h2
      cases hl : leapB y with
      | true =>
        have HL : Hid (daysI y 2 = 29) := Lib.hid (by unfold daysI; simp [hl])
        go_enter Tryd.func38, Tryd.ntmps38
        go_wp2_with (go_at_call 57; refine (leap_calls _ _).mono ?_; rintro e w' ⟨rfl, rfl⟩)
        go_ret
        exact ⟨by rw [HL.out]; rfl, rfl⟩
      | false =>
        have HL : Hid (daysI y 2 = 28) := Lib.hid (by unfold daysI; simp [hl])
        go_enter Tryd.func38, Tryd.ntmps38
        go_wp2_with (go_at_call 57; refine (leap_calls _ _).mono ?_; rintro e w' ⟨rfl, rfl⟩)
        go_ret
        exact ⟨by rw [HL.out]; rfl, rfl⟩
    · have q1 : (m == 4) = false := by rw [beq_eq_false_iff_ne]; omega
      have q2 : (m == 6) = false := by rw [beq_eq_false_iff_ne]; omega
      have q3 : (m == 9) = false := by rw [beq_eq_false_iff_ne]; omega
      have q4 : (m == 11) = false := by rw [beq_eq_false_iff_ne]; omega
      have q5 : (m == 2) = false := by rw [beq_eq_false_iff_ne]; omega
      by_cases h5 : m < 1 ∨ 12 < m
      · have HL : Hid (daysI y m = 0) := Lib.hid (by unfold daysI; rw [if_neg h4, if_neg h2, if_pos h5])
        by_cases h6 : m < 1
        · have q6 : decide (m < 1) = true := decide_eq_true h6
          clear h4 h2 h5 h6
          go_enter Tryd.func38, Tryd.ntmps38
          go_wp2
          go_ret
          exact ⟨by rw [HL.out]; rfl, rfl⟩
        · have q6 : decide (m < 1) = false := decide_eq_false h6
          have q7 : decide (12 < m) = true := decide_eq_true (by omega)
          clear h4 h2 h5 h6
          go_enter Tryd.func38, Tryd.ntmps38
          go_wp2
          go_ret
          exact ⟨by rw [HL.out]; rfl, rfl⟩
      · have HL : Hid (daysI y m = 31) := Lib.hid (by unfold daysI; rw [if_neg h4, if_neg h2, if_neg h5])
        have q6 : decide (m < 1) = false := decide_eq_false (by omega)
        have q7 : decide (12 < m) = false := decide_eq_false (by omega)
        clear h4 h2 h5
        go_enter Tryd.func38, Tryd.ntmps38
        go_wp2
        go_ret
        exact ⟨by rw [HL.out]; rfl, rfl⟩
end Go.Proofs.YtehhoigedniglaaDoor.Zp
