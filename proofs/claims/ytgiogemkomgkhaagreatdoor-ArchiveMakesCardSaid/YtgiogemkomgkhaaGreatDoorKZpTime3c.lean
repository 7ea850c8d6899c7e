/-
  Times: the reference's Good, a part of its ways. (Printed by mkzptime3.py.)
-/
import Derived.Test.YtgiogemkomgkhaaGreatDoorKZpTime3a
import Derived.Test.YtgiogemkomgkhaaGreatDoorKZpTime3b
set_option linter.unusedVariables false
set_option linter.unusedSimpArgs false
namespace Go.Proofs.YtgiogemkomgkhaaGreatDoor.Zp
open Go.RowKit
theorem refgood_calls (t:Tm) (w:World):Calls Tryz.prog 19 #[t.val] w fun e w'=>e= .returned (.bool (tgood t))∧Below w.heap.size w w':=by
 obtain⟨y,mo,d,h,mi,s⟩:=t
 show Calls Tryz.prog 19 #[.agg #[.int .i64 y,.int .i64 mo,.int .i64 d,.int .i64 h,.int .i64 mi,.int .i64 s]] w fun e w'=>e= .returned (.bool (tgoodB y mo d h mi s))∧Below w.heap.size w w'
 rw[← refgood_eq]
 cases q0:decide (1980≤y) with
 | false =>
  have e:refgoodB y mo d h mi s=false:=by simp only[refgoodB,q0,Bool.and_false,Bool.false_and]
  rw[e]
  exact refgood_no0 y mo d h mi s w q0
 | true =>
  cases q1:decide (y≤2107) with
  | false =>
   have e:refgoodB y mo d h mi s=false:=by simp only[refgoodB,q1,Bool.and_false,Bool.false_and]
   rw[e]
   exact refgood_no1 y mo d h mi s w q0 q1
  | true =>
   cases q2:decide (1≤mo) with
   | false =>
    have e:refgoodB y mo d h mi s=false:=by simp only[refgoodB,q2,Bool.and_false,Bool.false_and]
    rw[e]
    exact refgood_no2 y mo d h mi s w q0 q1 q2
   | true =>
    cases q3:decide (mo≤12) with
    | false =>
     have e:refgoodB y mo d h mi s=false:=by simp only[refgoodB,q3,Bool.and_false,Bool.false_and]
     rw[e]
     exact refgood_no3 y mo d h mi s w q0 q1 q2 q3
    | true =>
     cases q4:decide (1≤d) with
     | false =>
      have e:refgoodB y mo d h mi s=false:=by simp only[refgoodB,q4,Bool.and_false,Bool.false_and]
      rw[e]
      exact refgood_no4 y mo d h mi s w q0 q1 q2 q3 q4
     | true =>
      cases q5:decide (d≤daysI y mo) with
      | false =>
       have e:refgoodB y mo d h mi s=false:=by simp only[refgoodB,q5,Bool.and_false,Bool.false_and]
       rw[e]
       exact refgood_no5 y mo d h mi s w q0 q1 q2 q3 q4 q5
      | true =>
       cases q6:decide (0≤h) with
       | false =>
        have e:refgoodB y mo d h mi s=false:=by simp only[refgoodB,q6,Bool.and_false,Bool.false_and]
        rw[e]
        exact refgood_no6 y mo d h mi s w q0 q1 q2 q3 q4 q5 q6
       | true =>
        cases q7:decide (h≤23) with
        | false =>
         have e:refgoodB y mo d h mi s=false:=by simp only[refgoodB,q7,Bool.and_false,Bool.false_and]
         rw[e]
         exact refgood_no7 y mo d h mi s w q0 q1 q2 q3 q4 q5 q6 q7
        | true =>
         cases q8:decide (0≤mi) with
         | false =>
          have e:refgoodB y mo d h mi s=false:=by simp only[refgoodB,q8,Bool.and_false,Bool.false_and]
          rw[e]
          exact refgood_no8 y mo d h mi s w q0 q1 q2 q3 q4 q5 q6 q7 q8
         | true =>
          cases q9:decide (mi≤59) with
          | false =>
           have e:refgoodB y mo d h mi s=false:=by simp only[refgoodB,q9,Bool.and_false,Bool.false_and]
           rw[e]
           exact refgood_no9 y mo d h mi s w q0 q1 q2 q3 q4 q5 q6 q7 q8 q9
          | true =>
           cases q10:decide (0≤s) with
           | false =>
            have e:refgoodB y mo d h mi s=false:=by simp only[refgoodB,q10,Bool.and_false,Bool.false_and]
            rw[e]
            exact refgood_no10 y mo d h mi s w q0 q1 q2 q3 q4 q5 q6 q7 q8 q9 q10
           | true =>
            cases q11:decide (s≤58) with
            | false =>
             have e:refgoodB y mo d h mi s=false:=by simp only[refgoodB,q11,Bool.and_false,Bool.false_and]
             rw[e]
             exact refgood_no11 y mo d h mi s w q0 q1 q2 q3 q4 q5 q6 q7 q8 q9 q10 q11
            | true =>
             cases q12:(s.tmod 2 == 0) with
             | false =>
              have e:refgoodB y mo d h mi s=false:=by simp only[refgoodB,q12,Bool.and_false,Bool.false_and]
              rw[e]
              exact refgood_no12 y mo d h mi s w q0 q1 q2 q3 q4 q5 q6 q7 q8 q9 q10 q11 q12
             | true =>
              have e:refgoodB y mo d h mi s=true:=by simp only[refgoodB,q0,q1,q2,q3,q4,q5,q6,q7,q8,q9,q10,q11,q12,Bool.and_true]
              rw[e]
              exact refgood_all y mo d h mi s w q0 q1 q2 q3 q4 q5 q6 q7 q8 q9 q10 q11 q12
end Go.Proofs.YtgiogemkomgkhaaGreatDoor.Zp
