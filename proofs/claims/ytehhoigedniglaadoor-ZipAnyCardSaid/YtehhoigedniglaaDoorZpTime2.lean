/-
  Times: the program's Good answers tgood. (Printed by mkzptime2.py.)
-/
import Derived.Test.YtehhoigedniglaaDoorZpTime
import Derived.BigQuiet
namespace Go.Proofs.YtehhoigedniglaaDoor.Zp
open Go.RowKit
set_option linter.unusedVariables false
set_option linter.unusedSimpArgs false

def tgoodB (y mo d h mi s : Int) : Bool :=
  decide (1980 ≤ y) && decide (y ≤ 2107) && decide (1 ≤ d) && decide (d ≤ daysI y mo) && decide (0 ≤ h) && decide (h < 24) && decide (0 ≤ mi) && decide (mi < 60) && decide (0 ≤ s) && decide (s < 60) && (s.tmod 2 == 0)
def tgood (t : Tm) : Bool := tgoodB t.y t.mo t.d t.h t.mi t.s

theorem below_drewN' (w : World) (n : Nat) : Below w.heap.size w (w.drewN n) := by
  induction n with
  | zero => exact Below.refl _ _
  | succ n ih => rw [← World.drew_drewN]; exact ih.drew


set_option maxHeartbeats 1000000 in
set_option maxRecDepth 100000 in
theorem good_no0 (y mo d h mi s : Int) (w : World)  (q0 : decide (1980 ≤ y) = false) :
    Calls Tryd.prog 37 #[.agg #[.int .i64 y, .int .i64 mo, .int .i64 d, .int .i64 h, .int .i64 mi, .int .i64 s]] w fun e w' => e = .returned (.bool false) ∧ Below w.heap.size w w' := by
  have B0 := Lib.hid (Below.refl w.heap.size w)
  go_enter Tryd.func37, Tryd.ntmps37
  go_wp2_with fail
  go_quiet (first | (go_at_call 38; refine (days_calls _ _ _).mono ?_; rintro e w' ⟨rfl, rfl⟩; exact ⟨rfl, _, rfl⟩))
  go_wp2
  go_ret
  exact ⟨rfl, ((B0.out.alloc B0.out.size _).trans ((below_drewN' _ _).mono (B0.out.alloc B0.out.size _).size))⟩


set_option maxHeartbeats 1000000 in
set_option maxRecDepth 100000 in
theorem good_no1 (y mo d h mi s : Int) (w : World) (q0 : decide (1980 ≤ y) = true) (q1 : decide (y ≤ 2107) = false) :
    Calls Tryd.prog 37 #[.agg #[.int .i64 y, .int .i64 mo, .int .i64 d, .int .i64 h, .int .i64 mi, .int .i64 s]] w fun e w' => e = .returned (.bool false) ∧ Below w.heap.size w w' := by
  have B0 := Lib.hid (Below.refl w.heap.size w)
  go_enter Tryd.func37, Tryd.ntmps37
  go_wp2_with fail
  go_quiet (first | (go_at_call 38; refine (days_calls _ _ _).mono ?_; rintro e w' ⟨rfl, rfl⟩; exact ⟨rfl, _, rfl⟩))
  go_wp2
  go_ret
  exact ⟨rfl, ((B0.out.alloc B0.out.size _).trans ((below_drewN' _ _).mono (B0.out.alloc B0.out.size _).size))⟩


set_option maxHeartbeats 1000000 in
set_option maxRecDepth 100000 in
theorem good_no2 (y mo d h mi s : Int) (w : World) (q0 : decide (1980 ≤ y) = true) (q1 : decide (y ≤ 2107) = true) (q2 : decide (1 ≤ d) = false) :
    Calls Tryd.prog 37 #[.agg #[.int .i64 y, .int .i64 mo, .int .i64 d, .int .i64 h, .int .i64 mi, .int .i64 s]] w fun e w' => e = .returned (.bool false) ∧ Below w.heap.size w w' := by
  have B0 := Lib.hid (Below.refl w.heap.size w)
  go_enter Tryd.func37, Tryd.ntmps37
  go_wp2_with fail
  go_quiet (first | (go_at_call 38; refine (days_calls _ _ _).mono ?_; rintro e w' ⟨rfl, rfl⟩; exact ⟨rfl, _, rfl⟩))
  go_wp2
  go_ret
  exact ⟨rfl, ((B0.out.alloc B0.out.size _).trans ((below_drewN' _ _).mono (B0.out.alloc B0.out.size _).size))⟩


set_option maxHeartbeats 1000000 in
set_option maxRecDepth 100000 in
theorem good_no3 (y mo d h mi s : Int) (w : World) (q0 : decide (1980 ≤ y) = true) (q1 : decide (y ≤ 2107) = true) (q2 : decide (1 ≤ d) = true) (q3 : decide (d ≤ daysI y mo) = false) :
    Calls Tryd.prog 37 #[.agg #[.int .i64 y, .int .i64 mo, .int .i64 d, .int .i64 h, .int .i64 mi, .int .i64 s]] w fun e w' => e = .returned (.bool false) ∧ Below w.heap.size w w' := by
  have B0 := Lib.hid (Below.refl w.heap.size w)
  go_enter Tryd.func37, Tryd.ntmps37
  go_wp2_with fail
  go_quiet (first | (go_at_call 38; refine (days_calls _ _ _).mono ?_; rintro e w' ⟨rfl, rfl⟩; exact ⟨rfl, _, rfl⟩))
  go_wp2
  go_ret
  exact ⟨rfl, ((B0.out.alloc B0.out.size _).trans ((below_drewN' _ _).mono (B0.out.alloc B0.out.size _).size))⟩


set_option maxHeartbeats 1000000 in
set_option maxRecDepth 100000 in
theorem good_no4 (y mo d h mi s : Int) (w : World) (q0 : decide (1980 ≤ y) = true) (q1 : decide (y ≤ 2107) = true) (q2 : decide (1 ≤ d) = true) (q3 : decide (d ≤ daysI y mo) = true) (q4 : decide (0 ≤ h) = false) :
    Calls Tryd.prog 37 #[.agg #[.int .i64 y, .int .i64 mo, .int .i64 d, .int .i64 h, .int .i64 mi, .int .i64 s]] w fun e w' => e = .returned (.bool false) ∧ Below w.heap.size w w' := by
  have B0 := Lib.hid (Below.refl w.heap.size w)
  go_enter Tryd.func37, Tryd.ntmps37
  go_wp2_with fail
  go_quiet (first | (go_at_call 38; refine (days_calls _ _ _).mono ?_; rintro e w' ⟨rfl, rfl⟩; exact ⟨rfl, _, rfl⟩))
  go_wp2
  go_ret
  exact ⟨rfl, ((B0.out.alloc B0.out.size _).trans ((below_drewN' _ _).mono (B0.out.alloc B0.out.size _).size))⟩


set_option maxHeartbeats 1000000 in
set_option maxRecDepth 100000 in
theorem good_no5 (y mo d h mi s : Int) (w : World) (q0 : decide (1980 ≤ y) = true) (q1 : decide (y ≤ 2107) = true) (q2 : decide (1 ≤ d) = true) (q3 : decide (d ≤ daysI y mo) = true) (q4 : decide (0 ≤ h) = true) (q5 : decide (h < 24) = false) :
    Calls Tryd.prog 37 #[.agg #[.int .i64 y, .int .i64 mo, .int .i64 d, .int .i64 h, .int .i64 mi, .int .i64 s]] w fun e w' => e = .returned (.bool false) ∧ Below w.heap.size w w' := by
  have B0 := Lib.hid (Below.refl w.heap.size w)
  go_enter Tryd.func37, Tryd.ntmps37
  go_wp2_with fail
  go_quiet (first | (go_at_call 38; refine (days_calls _ _ _).mono ?_; rintro e w' ⟨rfl, rfl⟩; exact ⟨rfl, _, rfl⟩))
  go_wp2
  go_ret
  exact ⟨rfl, ((B0.out.alloc B0.out.size _).trans ((below_drewN' _ _).mono (B0.out.alloc B0.out.size _).size))⟩


set_option maxHeartbeats 1000000 in
set_option maxRecDepth 100000 in
theorem good_no6 (y mo d h mi s : Int) (w : World) (q0 : decide (1980 ≤ y) = true) (q1 : decide (y ≤ 2107) = true) (q2 : decide (1 ≤ d) = true) (q3 : decide (d ≤ daysI y mo) = true) (q4 : decide (0 ≤ h) = true) (q5 : decide (h < 24) = true) (q6 : decide (0 ≤ mi) = false) :
    Calls Tryd.prog 37 #[.agg #[.int .i64 y, .int .i64 mo, .int .i64 d, .int .i64 h, .int .i64 mi, .int .i64 s]] w fun e w' => e = .returned (.bool false) ∧ Below w.heap.size w w' := by
  have B0 := Lib.hid (Below.refl w.heap.size w)
  go_enter Tryd.func37, Tryd.ntmps37
  go_wp2_with fail
  go_quiet (first | (go_at_call 38; refine (days_calls _ _ _).mono ?_; rintro e w' ⟨rfl, rfl⟩; exact ⟨rfl, _, rfl⟩))
  go_wp2
  go_ret
  exact ⟨rfl, ((B0.out.alloc B0.out.size _).trans ((below_drewN' _ _).mono (B0.out.alloc B0.out.size _).size))⟩


set_option maxHeartbeats 1000000 in
set_option maxRecDepth 100000 in
theorem good_no7 (y mo d h mi s : Int) (w : World) (q0 : decide (1980 ≤ y) = true) (q1 : decide (y ≤ 2107) = true) (q2 : decide (1 ≤ d) = true) (q3 : decide (d ≤ daysI y mo) = true) (q4 : decide (0 ≤ h) = true) (q5 : decide (h < 24) = true) (q6 : decide (0 ≤ mi) = true) (q7 : decide (mi < 60) = false) :
    Calls Tryd.prog 37 #[.agg #[.int .i64 y, .int .i64 mo, .int .i64 d, .int .i64 h, .int .i64 mi, .int .i64 s]] w fun e w' => e = .returned (.bool false) ∧ Below w.heap.size w w' := by
  have B0 := Lib.hid (Below.refl w.heap.size w)
  go_enter Tryd.func37, Tryd.ntmps37
  go_wp2_with fail
  go_quiet (first | (go_at_call 38; refine (days_calls _ _ _).mono ?_; rintro e w' ⟨rfl, rfl⟩; exact ⟨rfl, _, rfl⟩))
  go_wp2
  go_ret
  exact ⟨rfl, ((B0.out.alloc B0.out.size _).trans ((below_drewN' _ _).mono (B0.out.alloc B0.out.size _).size))⟩


set_option maxHeartbeats 1000000 in
set_option maxRecDepth 100000 in
theorem good_no8 (y mo d h mi s : Int) (w : World) (q0 : decide (1980 ≤ y) = true) (q1 : decide (y ≤ 2107) = true) (q2 : decide (1 ≤ d) = true) (q3 : decide (d ≤ daysI y mo) = true) (q4 : decide (0 ≤ h) = true) (q5 : decide (h < 24) = true) (q6 : decide (0 ≤ mi) = true) (q7 : decide (mi < 60) = true) (q8 : decide (0 ≤ s) = false) :
    Calls Tryd.prog 37 #[.agg #[.int .i64 y, .int .i64 mo, .int .i64 d, .int .i64 h, .int .i64 mi, .int .i64 s]] w fun e w' => e = .returned (.bool false) ∧ Below w.heap.size w w' := by
  have B0 := Lib.hid (Below.refl w.heap.size w)
  go_enter Tryd.func37, Tryd.ntmps37
  go_wp2_with fail
  go_quiet (first | (go_at_call 38; refine (days_calls _ _ _).mono ?_; rintro e w' ⟨rfl, rfl⟩; exact ⟨rfl, _, rfl⟩))
  go_wp2
  go_ret
  exact ⟨rfl, ((B0.out.alloc B0.out.size _).trans ((below_drewN' _ _).mono (B0.out.alloc B0.out.size _).size))⟩


set_option maxHeartbeats 1000000 in
set_option maxRecDepth 100000 in
theorem good_no9 (y mo d h mi s : Int) (w : World) (q0 : decide (1980 ≤ y) = true) (q1 : decide (y ≤ 2107) = true) (q2 : decide (1 ≤ d) = true) (q3 : decide (d ≤ daysI y mo) = true) (q4 : decide (0 ≤ h) = true) (q5 : decide (h < 24) = true) (q6 : decide (0 ≤ mi) = true) (q7 : decide (mi < 60) = true) (q8 : decide (0 ≤ s) = true) (q9 : decide (s < 60) = false) :
    Calls Tryd.prog 37 #[.agg #[.int .i64 y, .int .i64 mo, .int .i64 d, .int .i64 h, .int .i64 mi, .int .i64 s]] w fun e w' => e = .returned (.bool false) ∧ Below w.heap.size w w' := by
  have B0 := Lib.hid (Below.refl w.heap.size w)
  go_enter Tryd.func37, Tryd.ntmps37
  go_wp2_with fail
  go_quiet (first | (go_at_call 38; refine (days_calls _ _ _).mono ?_; rintro e w' ⟨rfl, rfl⟩; exact ⟨rfl, _, rfl⟩))
  go_wp2
  go_ret
  exact ⟨rfl, ((B0.out.alloc B0.out.size _).trans ((below_drewN' _ _).mono (B0.out.alloc B0.out.size _).size))⟩


set_option maxHeartbeats 1000000 in
set_option maxRecDepth 100000 in
theorem good_no10 (y mo d h mi s : Int) (w : World) (q0 : decide (1980 ≤ y) = true) (q1 : decide (y ≤ 2107) = true) (q2 : decide (1 ≤ d) = true) (q3 : decide (d ≤ daysI y mo) = true) (q4 : decide (0 ≤ h) = true) (q5 : decide (h < 24) = true) (q6 : decide (0 ≤ mi) = true) (q7 : decide (mi < 60) = true) (q8 : decide (0 ≤ s) = true) (q9 : decide (s < 60) = true) (q10 : (s.tmod 2 == 0) = false) :
    Calls Tryd.prog 37 #[.agg #[.int .i64 y, .int .i64 mo, .int .i64 d, .int .i64 h, .int .i64 mi, .int .i64 s]] w fun e w' => e = .returned (.bool false) ∧ Below w.heap.size w w' := by
  have B0 := Lib.hid (Below.refl w.heap.size w)
  go_enter Tryd.func37, Tryd.ntmps37
  go_wp2_with fail
  go_quiet (first | (go_at_call 38; refine (days_calls _ _ _).mono ?_; rintro e w' ⟨rfl, rfl⟩; exact ⟨rfl, _, rfl⟩))
  go_wp2
  go_ret
  exact ⟨rfl, ((B0.out.alloc B0.out.size _).trans ((below_drewN' _ _).mono (B0.out.alloc B0.out.size _).size))⟩


set_option maxHeartbeats 1000000 in
set_option maxRecDepth 100000 in
theorem good_all (y mo d h mi s : Int) (w : World) (q0 : decide (1980 ≤ y) = true) (q1 : decide (y ≤ 2107) = true) (q2 : decide (1 ≤ d) = true) (q3 : decide (d ≤ daysI y mo) = true) (q4 : decide (0 ≤ h) = true) (q5 : decide (h < 24) = true) (q6 : decide (0 ≤ mi) = true) (q7 : decide (mi < 60) = true) (q8 : decide (0 ≤ s) = true) (q9 : decide (s < 60) = true) (q10 : (s.tmod 2 == 0) = true) :
    Calls Tryd.prog 37 #[.agg #[.int .i64 y, .int .i64 mo, .int .i64 d, .int .i64 h, .int .i64 mi, .int .i64 s]] w fun e w' => e = .returned (.bool true) ∧ Below w.heap.size w w' := by
  have B0 := Lib.hid (Below.refl w.heap.size w)
  go_enter Tryd.func37, Tryd.ntmps37
  go_wp2_with fail
  go_quiet (first | (go_at_call 38; refine (days_calls _ _ _).mono ?_; rintro e w' ⟨rfl, rfl⟩; exact ⟨rfl, _, rfl⟩))
  go_wp2
  go_ret
  exact ⟨rfl, ((B0.out.alloc B0.out.size _).trans ((below_drewN' _ _).mono (B0.out.alloc B0.out.size _).size))⟩


theorem tgood_calls (t : Tm) (w : World) : Calls Tryd.prog 37 #[t.val] w fun e w' => e = .returned (.bool (tgood t)) ∧ Below w.heap.size w w' := by
  obtain ⟨y, mo, d, h, mi, s⟩ := t
  show Calls Tryd.prog 37 #[.agg #[.int .i64 y, .int .i64 mo, .int .i64 d, .int .i64 h, .int .i64 mi, .int .i64 s]] w fun e w' => e = .returned (.bool (tgoodB y mo d h mi s)) ∧ Below w.heap.size w w'

  cases q0 : decide (1980 ≤ y) with
  | false =>
    have e : tgoodB y mo d h mi s = false := by simp only [tgoodB, q0, Bool.and_false, Bool.false_and]
    rw [e]
    exact good_no0 y mo d h mi s w q0
  | true =>
    cases q1 : decide (y ≤ 2107) with
    | false =>
      have e : tgoodB y mo d h mi s = false := by simp only [tgoodB, q1, Bool.and_false, Bool.false_and]
      rw [e]
      exact good_no1 y mo d h mi s w q0 q1
    | true =>
      cases q2 : decide (1 ≤ d) with
      | false =>
        have e : tgoodB y mo d h mi s = false := by simp only [tgoodB, q2, Bool.and_false, Bool.false_and]
        rw [e]
        exact good_no2 y mo d h mi s w q0 q1 q2
      | true =>
        cases q3 : decide (d ≤ daysI y mo) with
        | false =>
          have e : tgoodB y mo d h mi s = false := by simp only [tgoodB, q3, Bool.and_false, Bool.false_and]
          rw [e]
          exact good_no3 y mo d h mi s w q0 q1 q2 q3
        | true =>
          cases q4 : decide (0 ≤ h) with
          | false =>
            have e : tgoodB y mo d h mi s = false := by simp only [tgoodB, q4, Bool.and_false, Bool.false_and]
            rw [e]
            exact good_no4 y mo d h mi s w q0 q1 q2 q3 q4
          | true =>
            cases q5 : decide (h < 24) with
            | false =>
              have e : tgoodB y mo d h mi s = false := by simp only [tgoodB, q5, Bool.and_false, Bool.false_and]
              rw [e]
              exact good_no5 y mo d h mi s w q0 q1 q2 q3 q4 q5
            | true =>
              cases q6 : decide (0 ≤ mi) with
              | false =>
                have e : tgoodB y mo d h mi s = false := by simp only [tgoodB, q6, Bool.and_false, Bool.false_and]
                rw [e]
                exact good_no6 y mo d h mi s w q0 q1 q2 q3 q4 q5 q6
              | true =>
                cases q7 : decide (mi < 60) with
                | false =>
                  have e : tgoodB y mo d h mi s = false := by simp only [tgoodB, q7, Bool.and_false, Bool.false_and]
                  rw [e]
                  exact good_no7 y mo d h mi s w q0 q1 q2 q3 q4 q5 q6 q7
                | true =>
                  cases q8 : decide (0 ≤ s) with
                  | false =>
                    have e : tgoodB y mo d h mi s = false := by simp only [tgoodB, q8, Bool.and_false, Bool.false_and]
                    rw [e]
                    exact good_no8 y mo d h mi s w q0 q1 q2 q3 q4 q5 q6 q7 q8
                  | true =>
                    cases q9 : decide (s < 60) with
                    | false =>
                      have e : tgoodB y mo d h mi s = false := by simp only [tgoodB, q9, Bool.and_false, Bool.false_and]
                      rw [e]
                      exact good_no9 y mo d h mi s w q0 q1 q2 q3 q4 q5 q6 q7 q8 q9
                    | true =>
                      cases q10 : (s.tmod 2 == 0) with
                      | false =>
                        have e : tgoodB y mo d h mi s = false := by simp only [tgoodB, q10, Bool.and_false, Bool.false_and]
                        rw [e]
                        exact good_no10 y mo d h mi s w q0 q1 q2 q3 q4 q5 q6 q7 q8 q9 q10
                      | true =>
                        have e : tgoodB y mo d h mi s = true := by simp only [tgoodB, q0, q1, q2, q3, q4, q5, q6, q7, q8, q9, q10, Bool.and_true]
                        rw [e]
                        exact good_all y mo d h mi s w q0 q1 q2 q3 q4 q5 q6 q7 q8 q9 q10

end Go.Proofs.YtehhoigedniglaaDoor.Zp
