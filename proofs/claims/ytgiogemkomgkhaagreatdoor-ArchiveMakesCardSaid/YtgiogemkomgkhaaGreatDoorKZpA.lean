/-
  Times: packed and unpacked.
-/
import Derived.Test.YtgiogemkomgkhaaGreatDoorKZpP
import Derived.BigQuiet
set_option linter.unusedVariables false
set_option linter.unusedSimpArgs false
namespace Go.Proofs.YtgiogemkomgkhaaGreatDoor.Zp
open Go.RowKit
structure Tm where
 (y mo d h mi s:Int)
deriving DecidableEq
def Tm.val (t:Tm):Value:= .agg #[.int .i64 t.y,.int .i64 t.mo,.int .i64 t.d,.int .i64 t.h,.int .i64 t.mi,.int .i64 t.s]
def leapB (y:Int):Bool:=(y.tmod 4 == 0) && ((y.tmod 100 != 0) || (y.tmod 400 == 0))
theorem leap_calls (y:Int) (w:World):Calls Tryz.prog 57 #[.int .i64 y] w fun e w'=>e= .returned (.bool (leapB y))∧w=w':=by
 have HL:=Lib.hid (show leapB y=((y.tmod 4 == 0) && ((y.tmod 100 != 0) || (y.tmod 400 == 0))) from rfl)
 cases h1:(y.tmod 4 == 0)<;>cases h2:(y.tmod 100 != 0)<;>cases h3:(y.tmod 400 == 0)
 all_goals
  rw[h1,h2,h3]at HL
  go_enter Tryz.func57,Tryz.ntmps57
  go_wp2
  go_ret
  exact⟨by rw[HL.out];rfl,rfl⟩
def daysI (y m:Int):Int :=
 if m=4∨m=6∨m=9∨m=11 then 30
 else if m=2 then(if leapB y then 29 else 28)
 else if m<1∨12<m then 0
 else 31
set_option maxHeartbeats 1000000 in
theorem days_calls (y m:Int) (w:World):Calls Tryz.prog 33 #[.int .i64 y,.int .i64 m] w fun e w'=>e= .returned (.int .i64 (daysI y m))∧w=w':=by
 by_cases h4:m=4∨m=6∨m=9∨m=11
 ·have HL:Hid (daysI y m=30):=Lib.hid (by unfold daysI;rw[if_pos h4])
  rcases h4 with rfl|rfl|rfl|rfl
  all_goals
   go_enter Tryz.func33,Tryz.ntmps33
   go_wp2
   go_ret
   exact⟨by rw[HL.out];rfl,rfl⟩
 ·by_cases h2:m=2
  ·subst h2
   cases hl:leapB y with
   | true =>
    have HL:Hid (daysI y 2=29):=Lib.hid (by unfold daysI;simp[hl])
    go_enter Tryz.func33,Tryz.ntmps33
    go_wp2_with (go_at_call 57;refine(leap_calls _ _).mono ?_;rintro e w' ⟨rfl,rfl⟩)
    go_ret
    exact⟨by rw[HL.out];rfl,rfl⟩
   | false =>
    have HL:Hid (daysI y 2=28):=Lib.hid (by unfold daysI;simp[hl])
    go_enter Tryz.func33,Tryz.ntmps33
    go_wp2_with (go_at_call 57;refine(leap_calls _ _).mono ?_;rintro e w' ⟨rfl,rfl⟩)
    go_ret
    exact⟨by rw[HL.out];rfl,rfl⟩
  ·have q1:(m == 4)=false:=by rw[beq_eq_false_iff_ne];omega
   have q2:(m == 6)=false:=by rw[beq_eq_false_iff_ne];omega
   have q3:(m == 9)=false:=by rw[beq_eq_false_iff_ne];omega
   have q4:(m == 11)=false:=by rw[beq_eq_false_iff_ne];omega
   have q5:(m == 2)=false:=by rw[beq_eq_false_iff_ne];omega
   by_cases h5:m<1∨12<m
   ·have HL:Hid (daysI y m=0):=Lib.hid (by unfold daysI;rw[if_neg h4,if_neg h2,if_pos h5])
    by_cases h6:m<1
    ·have q6:decide (m<1)=true:=decide_eq_true h6
     clear h4 h2 h5 h6
     go_enter Tryz.func33,Tryz.ntmps33
     go_wp2
     go_ret
     exact⟨by rw[HL.out];rfl,rfl⟩
    ·have q6:decide (m<1)=false:=decide_eq_false h6
     have q7:decide (12<m)=true:=decide_eq_true (by omega)
     clear h4 h2 h5 h6
     go_enter Tryz.func33,Tryz.ntmps33
     go_wp2
     go_ret
     exact⟨by rw[HL.out];rfl,rfl⟩
   ·have HL:Hid (daysI y m=31):=Lib.hid (by unfold daysI;rw[if_neg h4,if_neg h2,if_neg h5])
    have q6:decide (m<1)=false:=decide_eq_false (by omega)
    have q7:decide (12<m)=false:=decide_eq_false (by omega)
    clear h4 h2 h5
    go_enter Tryz.func33,Tryz.ntmps33
    go_wp2
    go_ret
    exact⟨by rw[HL.out];rfl,rfl⟩
end Go.Proofs.YtgiogemkomgkhaaGreatDoor.Zp
namespace Go.Proofs.YtgiogemkomgkhaaGreatDoor.Zp
open Go.RowKit
def tgoodB (y mo d h mi s:Int):Bool :=
 decide (1980≤y) && decide (y≤2107) && decide (1≤d) && decide (d≤daysI y mo) && decide (0≤h) && decide (h<24) && decide (0≤mi) && decide (mi<60) && decide (0≤s) && decide (s<60) && (s.tmod 2 == 0)
def tgood (t:Tm):Bool:=tgoodB t.y t.mo t.d t.h t.mi t.s
theorem below_drewN' (w:World) (n:Nat):Below w.heap.size w (w.drewN n):=by
 induction n with
 | zero=>exact Below.refl _ _
 | succ n ih=>rw[← World.drew_drewN];exact ih.drew
set_option maxHeartbeats 1000000 in
set_option maxRecDepth 100000 in
theorem good_no0 (y mo d h mi s:Int) (w:World)  (q0:decide (1980≤y)=false) :
  Calls Tryz.prog 24 #[.agg #[.int .i64 y,.int .i64 mo,.int .i64 d,.int .i64 h,.int .i64 mi,.int .i64 s]] w fun e w'=>e= .returned (.bool false)∧Below w.heap.size w w':=by
 have B0:=Lib.hid (Below.refl w.heap.size w)
 go_enter Tryz.func24,Tryz.ntmps24
 go_wp2_with fail
 go_quiet (first|(go_at_call 33;refine(days_calls _ _ _).mono ?_;rintro e w' ⟨rfl,rfl⟩;exact⟨rfl,_,rfl⟩))
 go_wp2
 go_ret
 exact⟨rfl,((B0.out.alloc B0.out.size _).trans ((below_drewN' _ _).mono (B0.out.alloc B0.out.size _).size))⟩
set_option maxHeartbeats 1000000 in
set_option maxRecDepth 100000 in
theorem good_no1 (y mo d h mi s:Int) (w:World) (q0:decide (1980≤y)=true) (q1:decide (y≤2107)=false) :
  Calls Tryz.prog 24 #[.agg #[.int .i64 y,.int .i64 mo,.int .i64 d,.int .i64 h,.int .i64 mi,.int .i64 s]] w fun e w'=>e= .returned (.bool false)∧Below w.heap.size w w':=by
 have B0:=Lib.hid (Below.refl w.heap.size w)
 go_enter Tryz.func24,Tryz.ntmps24
 go_wp2_with fail
 go_quiet (first|(go_at_call 33;refine(days_calls _ _ _).mono ?_;rintro e w' ⟨rfl,rfl⟩;exact⟨rfl,_,rfl⟩))
 go_wp2
 go_ret
 exact⟨rfl,((B0.out.alloc B0.out.size _).trans ((below_drewN' _ _).mono (B0.out.alloc B0.out.size _).size))⟩
set_option maxHeartbeats 1000000 in
set_option maxRecDepth 100000 in
theorem good_no2 (y mo d h mi s:Int) (w:World) (q0:decide (1980≤y)=true) (q1:decide (y≤2107)=true) (q2:decide (1≤d)=false) :
  Calls Tryz.prog 24 #[.agg #[.int .i64 y,.int .i64 mo,.int .i64 d,.int .i64 h,.int .i64 mi,.int .i64 s]] w fun e w'=>e= .returned (.bool false)∧Below w.heap.size w w':=by
 have B0:=Lib.hid (Below.refl w.heap.size w)
 go_enter Tryz.func24,Tryz.ntmps24
 go_wp2_with fail
 go_quiet (first|(go_at_call 33;refine(days_calls _ _ _).mono ?_;rintro e w' ⟨rfl,rfl⟩;exact⟨rfl,_,rfl⟩))
 go_wp2
 go_ret
 exact⟨rfl,((B0.out.alloc B0.out.size _).trans ((below_drewN' _ _).mono (B0.out.alloc B0.out.size _).size))⟩
set_option maxHeartbeats 1000000 in
set_option maxRecDepth 100000 in
theorem good_no3 (y mo d h mi s:Int) (w:World) (q0:decide (1980≤y)=true) (q1:decide (y≤2107)=true) (q2:decide (1≤d)=true) (q3:decide (d≤daysI y mo)=false) :
  Calls Tryz.prog 24 #[.agg #[.int .i64 y,.int .i64 mo,.int .i64 d,.int .i64 h,.int .i64 mi,.int .i64 s]] w fun e w'=>e= .returned (.bool false)∧Below w.heap.size w w':=by
 have B0:=Lib.hid (Below.refl w.heap.size w)
 go_enter Tryz.func24,Tryz.ntmps24
 go_wp2_with fail
 go_quiet (first|(go_at_call 33;refine(days_calls _ _ _).mono ?_;rintro e w' ⟨rfl,rfl⟩;exact⟨rfl,_,rfl⟩))
 go_wp2
 go_ret
 exact⟨rfl,((B0.out.alloc B0.out.size _).trans ((below_drewN' _ _).mono (B0.out.alloc B0.out.size _).size))⟩
set_option maxHeartbeats 1000000 in
set_option maxRecDepth 100000 in
theorem good_no4 (y mo d h mi s:Int) (w:World) (q0:decide (1980≤y)=true) (q1:decide (y≤2107)=true) (q2:decide (1≤d)=true) (q3:decide (d≤daysI y mo)=true) (q4:decide (0≤h)=false) :
  Calls Tryz.prog 24 #[.agg #[.int .i64 y,.int .i64 mo,.int .i64 d,.int .i64 h,.int .i64 mi,.int .i64 s]] w fun e w'=>e= .returned (.bool false)∧Below w.heap.size w w':=by
 have B0:=Lib.hid (Below.refl w.heap.size w)
 go_enter Tryz.func24,Tryz.ntmps24
 go_wp2_with fail
 go_quiet (first|(go_at_call 33;refine(days_calls _ _ _).mono ?_;rintro e w' ⟨rfl,rfl⟩;exact⟨rfl,_,rfl⟩))
 go_wp2
 go_ret
 exact⟨rfl,((B0.out.alloc B0.out.size _).trans ((below_drewN' _ _).mono (B0.out.alloc B0.out.size _).size))⟩
set_option maxHeartbeats 1000000 in
set_option maxRecDepth 100000 in
theorem good_no5 (y mo d h mi s:Int) (w:World) (q0:decide (1980≤y)=true) (q1:decide (y≤2107)=true) (q2:decide (1≤d)=true) (q3:decide (d≤daysI y mo)=true) (q4:decide (0≤h)=true) (q5:decide (h<24)=false) :
  Calls Tryz.prog 24 #[.agg #[.int .i64 y,.int .i64 mo,.int .i64 d,.int .i64 h,.int .i64 mi,.int .i64 s]] w fun e w'=>e= .returned (.bool false)∧Below w.heap.size w w':=by
 have B0:=Lib.hid (Below.refl w.heap.size w)
 go_enter Tryz.func24,Tryz.ntmps24
 go_wp2_with fail
 go_quiet (first|(go_at_call 33;refine(days_calls _ _ _).mono ?_;rintro e w' ⟨rfl,rfl⟩;exact⟨rfl,_,rfl⟩))
 go_wp2
 go_ret
 exact⟨rfl,((B0.out.alloc B0.out.size _).trans ((below_drewN' _ _).mono (B0.out.alloc B0.out.size _).size))⟩
set_option maxHeartbeats 1000000 in
set_option maxRecDepth 100000 in
theorem good_no6 (y mo d h mi s:Int) (w:World) (q0:decide (1980≤y)=true) (q1:decide (y≤2107)=true) (q2:decide (1≤d)=true) (q3:decide (d≤daysI y mo)=true) (q4:decide (0≤h)=true) (q5:decide (h<24)=true) (q6:decide (0≤mi)=false) :
  Calls Tryz.prog 24 #[.agg #[.int .i64 y,.int .i64 mo,.int .i64 d,.int .i64 h,.int .i64 mi,.int .i64 s]] w fun e w'=>e= .returned (.bool false)∧Below w.heap.size w w':=by
 have B0:=Lib.hid (Below.refl w.heap.size w)
 go_enter Tryz.func24,Tryz.ntmps24
 go_wp2_with fail
 go_quiet (first|(go_at_call 33;refine(days_calls _ _ _).mono ?_;rintro e w' ⟨rfl,rfl⟩;exact⟨rfl,_,rfl⟩))
 go_wp2
 go_ret
 exact⟨rfl,((B0.out.alloc B0.out.size _).trans ((below_drewN' _ _).mono (B0.out.alloc B0.out.size _).size))⟩
set_option maxHeartbeats 1000000 in
set_option maxRecDepth 100000 in
theorem good_no7 (y mo d h mi s:Int) (w:World) (q0:decide (1980≤y)=true) (q1:decide (y≤2107)=true) (q2:decide (1≤d)=true) (q3:decide (d≤daysI y mo)=true) (q4:decide (0≤h)=true) (q5:decide (h<24)=true) (q6:decide (0≤mi)=true) (q7:decide (mi<60)=false) :
  Calls Tryz.prog 24 #[.agg #[.int .i64 y,.int .i64 mo,.int .i64 d,.int .i64 h,.int .i64 mi,.int .i64 s]] w fun e w'=>e= .returned (.bool false)∧Below w.heap.size w w':=by
 have B0:=Lib.hid (Below.refl w.heap.size w)
 go_enter Tryz.func24,Tryz.ntmps24
 go_wp2_with fail
 go_quiet (first|(go_at_call 33;refine(days_calls _ _ _).mono ?_;rintro e w' ⟨rfl,rfl⟩;exact⟨rfl,_,rfl⟩))
 go_wp2
 go_ret
 exact⟨rfl,((B0.out.alloc B0.out.size _).trans ((below_drewN' _ _).mono (B0.out.alloc B0.out.size _).size))⟩
set_option maxHeartbeats 1000000 in
set_option maxRecDepth 100000 in
theorem good_no8 (y mo d h mi s:Int) (w:World) (q0:decide (1980≤y)=true) (q1:decide (y≤2107)=true) (q2:decide (1≤d)=true) (q3:decide (d≤daysI y mo)=true) (q4:decide (0≤h)=true) (q5:decide (h<24)=true) (q6:decide (0≤mi)=true) (q7:decide (mi<60)=true) (q8:decide (0≤s)=false) :
  Calls Tryz.prog 24 #[.agg #[.int .i64 y,.int .i64 mo,.int .i64 d,.int .i64 h,.int .i64 mi,.int .i64 s]] w fun e w'=>e= .returned (.bool false)∧Below w.heap.size w w':=by
 have B0:=Lib.hid (Below.refl w.heap.size w)
 go_enter Tryz.func24,Tryz.ntmps24
 go_wp2_with fail
 go_quiet (first|(go_at_call 33;refine(days_calls _ _ _).mono ?_;rintro e w' ⟨rfl,rfl⟩;exact⟨rfl,_,rfl⟩))
 go_wp2
 go_ret
 exact⟨rfl,((B0.out.alloc B0.out.size _).trans ((below_drewN' _ _).mono (B0.out.alloc B0.out.size _).size))⟩
set_option maxHeartbeats 1000000 in
set_option maxRecDepth 100000 in
theorem good_no9 (y mo d h mi s:Int) (w:World) (q0:decide (1980≤y)=true) (q1:decide (y≤2107)=true) (q2:decide (1≤d)=true) (q3:decide (d≤daysI y mo)=true) (q4:decide (0≤h)=true) (q5:decide (h<24)=true) (q6:decide (0≤mi)=true) (q7:decide (mi<60)=true) (q8:decide (0≤s)=true) (q9:decide (s<60)=false) :
  Calls Tryz.prog 24 #[.agg #[.int .i64 y,.int .i64 mo,.int .i64 d,.int .i64 h,.int .i64 mi,.int .i64 s]] w fun e w'=>e= .returned (.bool false)∧Below w.heap.size w w':=by
 have B0:=Lib.hid (Below.refl w.heap.size w)
 go_enter Tryz.func24,Tryz.ntmps24
 go_wp2_with fail
 go_quiet (first|(go_at_call 33;refine(days_calls _ _ _).mono ?_;rintro e w' ⟨rfl,rfl⟩;exact⟨rfl,_,rfl⟩))
 go_wp2
 go_ret
 exact⟨rfl,((B0.out.alloc B0.out.size _).trans ((below_drewN' _ _).mono (B0.out.alloc B0.out.size _).size))⟩
set_option maxHeartbeats 1000000 in
set_option maxRecDepth 100000 in
theorem good_no10 (y mo d h mi s:Int) (w:World) (q0:decide (1980≤y)=true) (q1:decide (y≤2107)=true) (q2:decide (1≤d)=true) (q3:decide (d≤daysI y mo)=true) (q4:decide (0≤h)=true) (q5:decide (h<24)=true) (q6:decide (0≤mi)=true) (q7:decide (mi<60)=true) (q8:decide (0≤s)=true) (q9:decide (s<60)=true) (q10:(s.tmod 2 == 0)=false) :
  Calls Tryz.prog 24 #[.agg #[.int .i64 y,.int .i64 mo,.int .i64 d,.int .i64 h,.int .i64 mi,.int .i64 s]] w fun e w'=>e= .returned (.bool false)∧Below w.heap.size w w':=by
 have B0:=Lib.hid (Below.refl w.heap.size w)
 go_enter Tryz.func24,Tryz.ntmps24
 go_wp2_with fail
 go_quiet (first|(go_at_call 33;refine(days_calls _ _ _).mono ?_;rintro e w' ⟨rfl,rfl⟩;exact⟨rfl,_,rfl⟩))
 go_wp2
 go_ret
 exact⟨rfl,((B0.out.alloc B0.out.size _).trans ((below_drewN' _ _).mono (B0.out.alloc B0.out.size _).size))⟩
set_option maxHeartbeats 1000000 in
set_option maxRecDepth 100000 in
theorem good_all (y mo d h mi s:Int) (w:World) (q0:decide (1980≤y)=true) (q1:decide (y≤2107)=true) (q2:decide (1≤d)=true) (q3:decide (d≤daysI y mo)=true) (q4:decide (0≤h)=true) (q5:decide (h<24)=true) (q6:decide (0≤mi)=true) (q7:decide (mi<60)=true) (q8:decide (0≤s)=true) (q9:decide (s<60)=true) (q10:(s.tmod 2 == 0)=true) :
  Calls Tryz.prog 24 #[.agg #[.int .i64 y,.int .i64 mo,.int .i64 d,.int .i64 h,.int .i64 mi,.int .i64 s]] w fun e w'=>e= .returned (.bool true)∧Below w.heap.size w w':=by
 have B0:=Lib.hid (Below.refl w.heap.size w)
 go_enter Tryz.func24,Tryz.ntmps24
 go_wp2_with fail
 go_quiet (first|(go_at_call 33;refine(days_calls _ _ _).mono ?_;rintro e w' ⟨rfl,rfl⟩;exact⟨rfl,_,rfl⟩))
 go_wp2
 go_ret
 exact⟨rfl,((B0.out.alloc B0.out.size _).trans ((below_drewN' _ _).mono (B0.out.alloc B0.out.size _).size))⟩
theorem tgood_calls (t:Tm) (w:World):Calls Tryz.prog 24 #[t.val] w fun e w'=>e= .returned (.bool (tgood t))∧Below w.heap.size w w':=by
 obtain⟨y,mo,d,h,mi,s⟩:=t
 show Calls Tryz.prog 24 #[.agg #[.int .i64 y,.int .i64 mo,.int .i64 d,.int .i64 h,.int .i64 mi,.int .i64 s]] w fun e w'=>e= .returned (.bool (tgoodB y mo d h mi s))∧Below w.heap.size w w'
 cases q0:decide (1980≤y) with
 | false =>
  have e:tgoodB y mo d h mi s=false:=by simp only[tgoodB,q0,Bool.and_false,Bool.false_and]
  rw[e]
  exact good_no0 y mo d h mi s w q0
 | true =>
  cases q1:decide (y≤2107) with
  | false =>
   have e:tgoodB y mo d h mi s=false:=by simp only[tgoodB,q1,Bool.and_false,Bool.false_and]
   rw[e]
   exact good_no1 y mo d h mi s w q0 q1
  | true =>
   cases q2:decide (1≤d) with
   | false =>
    have e:tgoodB y mo d h mi s=false:=by simp only[tgoodB,q2,Bool.and_false,Bool.false_and]
    rw[e]
    exact good_no2 y mo d h mi s w q0 q1 q2
   | true =>
    cases q3:decide (d≤daysI y mo) with
    | false =>
     have e:tgoodB y mo d h mi s=false:=by simp only[tgoodB,q3,Bool.and_false,Bool.false_and]
     rw[e]
     exact good_no3 y mo d h mi s w q0 q1 q2 q3
    | true =>
     cases q4:decide (0≤h) with
     | false =>
      have e:tgoodB y mo d h mi s=false:=by simp only[tgoodB,q4,Bool.and_false,Bool.false_and]
      rw[e]
      exact good_no4 y mo d h mi s w q0 q1 q2 q3 q4
     | true =>
      cases q5:decide (h<24) with
      | false =>
       have e:tgoodB y mo d h mi s=false:=by simp only[tgoodB,q5,Bool.and_false,Bool.false_and]
       rw[e]
       exact good_no5 y mo d h mi s w q0 q1 q2 q3 q4 q5
      | true =>
       cases q6:decide (0≤mi) with
       | false =>
        have e:tgoodB y mo d h mi s=false:=by simp only[tgoodB,q6,Bool.and_false,Bool.false_and]
        rw[e]
        exact good_no6 y mo d h mi s w q0 q1 q2 q3 q4 q5 q6
       | true =>
        cases q7:decide (mi<60) with
        | false =>
         have e:tgoodB y mo d h mi s=false:=by simp only[tgoodB,q7,Bool.and_false,Bool.false_and]
         rw[e]
         exact good_no7 y mo d h mi s w q0 q1 q2 q3 q4 q5 q6 q7
        | true =>
         cases q8:decide (0≤s) with
         | false =>
          have e:tgoodB y mo d h mi s=false:=by simp only[tgoodB,q8,Bool.and_false,Bool.false_and]
          rw[e]
          exact good_no8 y mo d h mi s w q0 q1 q2 q3 q4 q5 q6 q7 q8
         | true =>
          cases q9:decide (s<60) with
          | false =>
           have e:tgoodB y mo d h mi s=false:=by simp only[tgoodB,q9,Bool.and_false,Bool.false_and]
           rw[e]
           exact good_no9 y mo d h mi s w q0 q1 q2 q3 q4 q5 q6 q7 q8 q9
          | true =>
           cases q10:(s.tmod 2 == 0) with
           | false =>
            have e:tgoodB y mo d h mi s=false:=by simp only[tgoodB,q10,Bool.and_false,Bool.false_and]
            rw[e]
            exact good_no10 y mo d h mi s w q0 q1 q2 q3 q4 q5 q6 q7 q8 q9 q10
           | true =>
            have e:tgoodB y mo d h mi s=true:=by simp only[tgoodB,q0,q1,q2,q3,q4,q5,q6,q7,q8,q9,q10,Bool.and_true]
            rw[e]
            exact good_all y mo d h mi s w q0 q1 q2 q3 q4 q5 q6 q7 q8 q9 q10
end Go.Proofs.YtgiogemkomgkhaaGreatDoor.Zp
namespace Go.Proofs.YtgiogemkomgkhaaGreatDoor.Zp
open Go.RowKit
def Blk (B:Nat) (cs:Array Value) (T:Nat) (w:World):Prop:=w.heap[B]?=some (.cells cs T (0,0))
theorem Blk.new (w:World) (cs:Array Value) (T:Nat):Blk w.heap.size cs T (w.alloc (.cells cs T)):=World.alloc_heap_new _ _
theorem Blk.new1 (w:World) (o:Obj) (cs:Array Value) (T:Nat):Blk (w.heap.size+1) cs T ((w.alloc o).alloc (.cells cs T)):=by
 have h:=Blk.new (w.alloc o) cs T
 simpa using h
theorem Blk.new2 (w:World) (o o2:Obj) (cs:Array Value) (T:Nat):Blk (w.heap.size+2) cs T (((w.alloc o).alloc o2).alloc (.cells cs T)):=by
 have h:=Blk.new ((w.alloc o).alloc o2) cs T
 simpa using h
theorem Blk.lt {B:Nat} {cs:Array Value} {T:Nat} {w:World} (h:Blk B cs T w):B<w.heap.size:=by
 rcases Nat.lt_or_ge B w.heap.size with h1|h1
 ·exact h1
 ·unfold Blk at h
  rw[Array.getElem?_eq_none h1]at h
  cases h
theorem Blk.below {B:Nat} {cs:Array Value} {T:Nat} {w w':World} (h:Blk B cs T w) (hb:Below w.heap.size w w'):Blk B cs T w':=by
 unfold Blk
 rw[hb.block B h.lt]
 exact h
theorem Blk.under {B N:Nat} {cs:Array Value} {T:Nat} {w w':World} (h:Blk B cs T w) (hB:B<N) (hb:Below N w w'):Blk B cs T w':=by
 unfold Blk
 rw[hb.block B hB]
 exact h
theorem Blk.drew {B:Nat} {cs:Array Value} {T:Nat} {w:World} (h:Blk B cs T w):Blk B cs T w.drew:=h
theorem Blk.drewN {B:Nat} {cs:Array Value} {T:Nat} {w:World} (h:Blk B cs T w):∀ n,Blk B cs T (w.drewN n)
 | 0=>h
 | n+1=>by rw[← World.drew_drewN];exact(h.drewN n).drew
theorem Blk.alloc {B:Nat} {cs:Array Value} {T:Nat} {w:World} (h:Blk B cs T w) (o:Obj):Blk B cs T (w.alloc o):=h.below ((Below.refl w.heap.size w).alloc (Nat.le_refl _) o)
theorem Blk.cell {B:Nat} {cs:Array Value} {T:Nat} {w:World} (h:Blk B cs T w) (k:Nat):w.cell? ⟨B,k,none⟩=cs[k]?:=by
 simp only[World.cell?]
 rw[h]
 rfl
theorem Blk.frozen {B:Nat} {cs:Array Value} {T:Nat} {w:World} (h:Blk B cs T w) (k:Nat):w.frozen? ⟨B,k,none⟩=false:=by
 simp only[World.frozen?]
 rw[h]
 simp
theorem Blk.set {B:Nat} {cs:Array Value} {T:Nat} {w:World} (h:Blk B cs T w) (k:Nat) (v:Value):Blk B (cs.setIfInBounds k v) T (w.setCell ⟨B,k,none⟩ v):=heap_setCell_same _ _ _ _ _ _ h
theorem Blk.setTo {B:Nat} {cs cs':Array Value} {T:Nat} {w:World} (h:Blk B cs T w) (k:Nat) (v:Value) (e:cs.setIfInBounds k v=cs'):Blk B cs' T (w.setCell ⟨B,k,none⟩ v):=e▸h.set k v
theorem results_cell_tmp {P:Program} {fn:Func} {p q:Tmp} {ty:TypeId} (h:fn.results= #[.cell p ty,.tmp q]) (tmps:Array Value) (w:World) (g:Nat) (t:TypeId) (cs:Array Value) (d:TypeDesc) (v:Value)
  (hp:tmps.getD p undef= .pointer (some ⟨g,0,none⟩)) (hq:tmps.getD q undef=v) (hg:Blk g cs t w)
  (hu:P.underlying ty=some d) (hd:(match d with | .struct _ | .array _ _=>true|_=>false)=true) (hi:(P.info? ty).map (·.size)=some cs.size) :
  (results fn tmps).run P w= .ok (.tuple #[.agg cs,v]) w:=by
 have hp':tmps[p]?.getD undef= .pointer (some ⟨g,0,none⟩):=by simpa using hp
 have hq':tmps[q]?.getD undef=v:=by simpa using hq
 simp[results,h,hp',hq',asAddr,run_loadVar_row w g t ty cs (0,0) d hg hu hd hi]
end Go.Proofs.YtgiogemkomgkhaaGreatDoor.Zp
namespace Go.Proofs.YtgiogemkomgkhaaGreatDoor.Zp
open Go.RowKit
structure Within (t:Tm):Prop where
 y:1980≤t.y∧t.y≤2107
 mo:1≤t.mo∧t.mo≤12
 d:1≤t.d∧t.d≤31
 h:0≤t.h∧t.h≤23
 mi:0≤t.mi∧t.mi≤59
 s:0≤t.s∧t.s≤58
 e:t.s.tmod 2=0
theorem daysI_le (y m:Int):daysI y m≤31:=by
 unfold daysI
 repeat' split
 all_goals omega
theorem daysI_pos (y m:Int) (h:1≤daysI y m):1≤m∧m≤12:=by
 unfold daysI at h
 repeat' split at h
 all_goals omega
theorem tgood_within {t:Tm} (h:tgood t=true):Within t:=by
 unfold tgood tgoodB at h
 simp only[Bool.and_eq_true,decide_eq_true_eq,beq_iff_eq]at h
 obtain⟨⟨⟨⟨⟨⟨⟨⟨⟨⟨a,b⟩,c⟩,d⟩,e⟩,f⟩,g⟩,i⟩,j⟩,k⟩,l⟩:=h
 have h1:=daysI_le t.y t.mo
 have h2:=daysI_pos t.y t.mo (by omega)
 have h3:t.s.tmod 2=t.s % 2:=by rw[Int.tmod_eq_emod_of_nonneg (by omega)]
 exact⟨⟨a,b⟩,h2,⟨c,by omega⟩,⟨e,by omega⟩,⟨g,by omega⟩,⟨j,by omega⟩,l⟩
def dateN (t:Tm):Int:=t.d+32*t.mo+512*(t.y - 1980)
def timeN (t:Tm):Int:=t.s/2+32*t.mi+2048*t.h
set_option maxRecDepth 100000 in
theorem or_i64 (b a:Int) (i:Nat) (hi:i<62) (hb:0≤b) (hb2:b<((2 ^ i:Nat):Int)) (ha:0≤a) (hs:a*((2 ^ i:Nat):Int)<4611686018427387904):Go.bits .or .i64 b (a*((2 ^ i:Nat):Int))=b+a*((2 ^ i:Nat):Int):=by
 obtain⟨b,rfl⟩:=Int.eq_ofNat_of_zero_le hb
 obtain⟨a,rfl⟩:=Int.eq_ofNat_of_zero_le ha
 have hb3:b<2 ^ i:=Int.ofNat_lt.1 hb2
 have e0:((a:Nat):Int)*((2 ^ i:Nat):Int)=((a*2 ^ i:Nat):Int):=(Int.natCast_mul _ _).symm
 have hs3:a*2 ^ i<4611686018427387904:=by
  rw[e0]at hs
  exact Int.ofNat_lt.1 hs
 have hp:2 ^ i<4611686018427387904:=Nat.pow_lt_pow_right (by omega) hi
 rw[e0]
 have e:Go.bits .or .i64 ((b:Nat):Int) ((a*2 ^ i:Nat):Int)=IntKind.i64.wrap ((BitVec.ofInt 64 ((b:Nat):Int) ||| BitVec.ofInt 64 ((a*2 ^ i:Nat):Int)).toNat:Int):=rfl
 have e2:=nat_or_add a i b hb3
 rw[Nat.or_comm]at e2
 rw[e,BitVec.ofInt_natCast,BitVec.ofInt_natCast,BitVec.toNat_or,BitVec.toNat_ofNat,BitVec.toNat_ofNat,Nat.mod_eq_of_lt (by omega),Nat.mod_eq_of_lt (by omega),e2,IntKind.wrap_i64]
 omega
set_option maxHeartbeats 1000000 in
set_option maxRecDepth 100000 in
theorem pack_good (y mo d h mi s:Int) (w:World) (hg:tgood ⟨y,mo,d,h,mi,s⟩=true) :
  Calls Tryz.prog 99 #[.agg #[.int .i64 y,.int .i64 mo,.int .i64 d,.int .i64 h,.int .i64 mi,.int .i64 s]] w fun e w'=>e= .returned (.tuple #[.int .u64 (dateN ⟨y,mo,d,h,mi,s⟩),.int .u64 (timeN ⟨y,mo,d,h,mi,s⟩),.bool true])∧Below w.heap.size w w':=by
 obtain⟨b1,b2,b3,b4,b5,b6,b7⟩:=tgood_within hg
 simp only at b1 b2 b3 b4 b5 b6 b7
 have o1:Go.bits .or .i64 d (mo*32)=d+mo*32:=or_i64 d mo 5 (by omega) (by omega) (by omega) (by omega) (by omega)
 have o2:Go.bits .or .i64 (d+mo*32) ((y - 1980)*512)=d+mo*32+(y - 1980)*512:=or_i64 _ (y - 1980) 9 (by omega) (by omega) (by omega) (by omega) (by omega)
 have o3:Go.bits .or .i64 (s/2) (mi*32)=s/2+mi*32:=or_i64 (s/2) mi 5 (by omega) (by omega) (by omega) (by omega) (by omega)
 have o4:Go.bits .or .i64 (s/2+mi*32) (h*2048)=s/2+mi*32+h*2048:=or_i64 _ h 11 (by omega) (by omega) (by omega) (by omega) (by omega)
 have o5:IntKind.u64.wrap (d+mo*32+(y - 1980)*512)=dateN ⟨y,mo,d,h,mi,s⟩:=by rw[IntKind.wrap_u64];simp only[dateN];omega
 have o6:IntKind.u64.wrap (s/2+mi*32+h*2048)=timeN ⟨y,mo,d,h,mi,s⟩:=by rw[IntKind.wrap_u64];simp only[timeN];omega
 have B0:=Lib.hid (Below.refl w.heap.size w)
 have O1:=Lib.hid o1
 have O2:=Lib.hid o2
 have O3:=Lib.hid o3
 have O4:=Lib.hid o4
 have O5:=Lib.hid o5
 have O6:=Lib.hid o6
 clear o1 o2 o3 o4 o5 o6
 replace B0:=Lib.hid (B0.out.alloc B0.out.size (.cells #[.int .i64 y,.int .i64 mo,.int .i64 d,.int .i64 h,.int .i64 mi,.int .i64 s] 40))
 go_enter Tryz.func99,Tryz.ntmps99
 go_wp2_with (go_at_call 24;refine(tgood_calls ⟨y,mo,d,h,mi,s⟩ _).mono ?_;rintro e w1 ⟨rfl,hb⟩;rw[hg];replace B0:=Lib.hid (B0.out.trans (hb.mono B0.out.size));have hk:=(Blk.new w _ _).below hb;have c0:=hk.cell 0;have c1:=hk.cell 1;have c2:=hk.cell 2;have c3:=hk.cell 3;have c4:=hk.cell 4;have c5:=hk.cell 5;simp only[List.getElem?_toArray,List.getElem?_cons_zero,List.getElem?_cons_succ]at c0 c1 c2 c3 c4 c5;clear hk hb)
 go_quiet (fail)
 go_wp2
 go_ret3
 exact⟨by rw[← O5.out,← O6.out,← O2.out,← O1.out,← O4.out,← O3.out]<;>rfl,B0.out.trans ((below_drewN' _ _).mono B0.out.size)⟩
theorem pack_calls (t:Tm) (w:World) (hg:tgood t=true) :
  Calls Tryz.prog 99 #[t.val] w fun e w'=>e= .returned (.tuple #[.int .u64 (dateN t),.int .u64 (timeN t),.bool true])∧Below w.heap.size w w':=by
 obtain⟨y,mo,d,h,mi,s⟩:=t
 exact pack_good y mo d h mi s w hg
def unpackT (date time:Int):Tm:=⟨date/512+1980,date/32 % 16,date % 32,time/2048,time/32 % 64,time % 32*2⟩
def zeroT:Tm:=⟨0,0,0,0,0,0⟩
end Go.Proofs.YtgiogemkomgkhaaGreatDoor.Zp
