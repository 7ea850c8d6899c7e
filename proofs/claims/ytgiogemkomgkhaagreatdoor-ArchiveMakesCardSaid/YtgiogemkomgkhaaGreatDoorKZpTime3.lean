/-
  Times: the reference's Days and Good answer daysI and tgood. (Printed by mkzptime3.py.)
-/
import Derived.Test.YtgiogemkomgkhaaGreatDoorKZpA
import Derived.Test.YtgiogemkomgkhaaGreatDoorKZpB
set_option linter.unusedVariables false
set_option linter.unusedSimpArgs false
namespace Go.Proofs.YtgiogemkomgkhaaGreatDoor.Zp
open Go.RowKit
set_option maxRecDepth 100000 in
theorem refdays_1 (y:Int) (w:World):Calls Tryz.prog 35 #[.int .i64 y,.int .i64 1] w fun e w'=>e= .returned (.int .i64 31)∧Below w.heap.size w w':=by
 have B0:=Lib.hid (Below.refl w.heap.size w)
 go_enter Tryz.func35,Tryz.ntmps35
 go_wp2
 go_ret
 exact⟨rfl,B0.out.alloc B0.out.size _⟩
set_option maxRecDepth 100000 in
theorem refdays_3 (y:Int) (w:World):Calls Tryz.prog 35 #[.int .i64 y,.int .i64 3] w fun e w'=>e= .returned (.int .i64 31)∧Below w.heap.size w w':=by
 have B0:=Lib.hid (Below.refl w.heap.size w)
 go_enter Tryz.func35,Tryz.ntmps35
 go_wp2
 go_ret
 exact⟨rfl,B0.out.alloc B0.out.size _⟩
set_option maxRecDepth 100000 in
theorem refdays_4 (y:Int) (w:World):Calls Tryz.prog 35 #[.int .i64 y,.int .i64 4] w fun e w'=>e= .returned (.int .i64 30)∧Below w.heap.size w w':=by
 have B0:=Lib.hid (Below.refl w.heap.size w)
 go_enter Tryz.func35,Tryz.ntmps35
 go_wp2
 go_ret
 exact⟨rfl,B0.out.alloc B0.out.size _⟩
set_option maxRecDepth 100000 in
theorem refdays_5 (y:Int) (w:World):Calls Tryz.prog 35 #[.int .i64 y,.int .i64 5] w fun e w'=>e= .returned (.int .i64 31)∧Below w.heap.size w w':=by
 have B0:=Lib.hid (Below.refl w.heap.size w)
 go_enter Tryz.func35,Tryz.ntmps35
 go_wp2
 go_ret
 exact⟨rfl,B0.out.alloc B0.out.size _⟩
set_option maxRecDepth 100000 in
theorem refdays_6 (y:Int) (w:World):Calls Tryz.prog 35 #[.int .i64 y,.int .i64 6] w fun e w'=>e= .returned (.int .i64 30)∧Below w.heap.size w w':=by
 have B0:=Lib.hid (Below.refl w.heap.size w)
 go_enter Tryz.func35,Tryz.ntmps35
 go_wp2
 go_ret
 exact⟨rfl,B0.out.alloc B0.out.size _⟩
set_option maxRecDepth 100000 in
theorem refdays_7 (y:Int) (w:World):Calls Tryz.prog 35 #[.int .i64 y,.int .i64 7] w fun e w'=>e= .returned (.int .i64 31)∧Below w.heap.size w w':=by
 have B0:=Lib.hid (Below.refl w.heap.size w)
 go_enter Tryz.func35,Tryz.ntmps35
 go_wp2
 go_ret
 exact⟨rfl,B0.out.alloc B0.out.size _⟩
set_option maxRecDepth 100000 in
theorem refdays_8 (y:Int) (w:World):Calls Tryz.prog 35 #[.int .i64 y,.int .i64 8] w fun e w'=>e= .returned (.int .i64 31)∧Below w.heap.size w w':=by
 have B0:=Lib.hid (Below.refl w.heap.size w)
 go_enter Tryz.func35,Tryz.ntmps35
 go_wp2
 go_ret
 exact⟨rfl,B0.out.alloc B0.out.size _⟩
set_option maxRecDepth 100000 in
theorem refdays_9 (y:Int) (w:World):Calls Tryz.prog 35 #[.int .i64 y,.int .i64 9] w fun e w'=>e= .returned (.int .i64 30)∧Below w.heap.size w w':=by
 have B0:=Lib.hid (Below.refl w.heap.size w)
 go_enter Tryz.func35,Tryz.ntmps35
 go_wp2
 go_ret
 exact⟨rfl,B0.out.alloc B0.out.size _⟩
set_option maxRecDepth 100000 in
theorem refdays_10 (y:Int) (w:World):Calls Tryz.prog 35 #[.int .i64 y,.int .i64 10] w fun e w'=>e= .returned (.int .i64 31)∧Below w.heap.size w w':=by
 have B0:=Lib.hid (Below.refl w.heap.size w)
 go_enter Tryz.func35,Tryz.ntmps35
 go_wp2
 go_ret
 exact⟨rfl,B0.out.alloc B0.out.size _⟩
set_option maxRecDepth 100000 in
theorem refdays_11 (y:Int) (w:World):Calls Tryz.prog 35 #[.int .i64 y,.int .i64 11] w fun e w'=>e= .returned (.int .i64 30)∧Below w.heap.size w w':=by
 have B0:=Lib.hid (Below.refl w.heap.size w)
 go_enter Tryz.func35,Tryz.ntmps35
 go_wp2
 go_ret
 exact⟨rfl,B0.out.alloc B0.out.size _⟩
set_option maxRecDepth 100000 in
theorem refdays_12 (y:Int) (w:World):Calls Tryz.prog 35 #[.int .i64 y,.int .i64 12] w fun e w'=>e= .returned (.int .i64 31)∧Below w.heap.size w w':=by
 have B0:=Lib.hid (Below.refl w.heap.size w)
 go_enter Tryz.func35,Tryz.ntmps35
 go_wp2
 go_ret
 exact⟨rfl,B0.out.alloc B0.out.size _⟩
set_option maxHeartbeats 2000000 in
set_option maxRecDepth 100000 in
theorem refdays_2 (y:Int) (w:World):Calls Tryz.prog 35 #[.int .i64 y,.int .i64 2] w fun e w'=>e= .returned (.int .i64 (daysI y 2))∧Below w.heap.size w w':=by
 have B0:=Lib.hid (Below.refl w.heap.size w)
 have HL:=Lib.hid (show daysI y 2=if ((y.tmod 4 == 0) && ((y.tmod 100 != 0) || (y.tmod 400 == 0))) then 29 else 28 by simp[daysI,leapB])
 cases h1:(y.tmod 4 == 0)<;>cases h2:(y.tmod 100 != 0)<;>cases h3:(y.tmod 400 == 0)
 all_goals
  rw[h1,h2,h3]at HL
  go_enter Tryz.func35,Tryz.ntmps35
  go_wp2
  go_ret
  exact⟨by rw[HL.out];rfl,B0.out.alloc B0.out.size _⟩
set_option maxRecDepth 100000 in
theorem refdays_calls (y m:Int) (w:World):Calls Tryz.prog 35 #[.int .i64 y,.int .i64 m] w fun e w'=>e= .returned (.int .i64 (daysI y m))∧Below w.heap.size w w':=by
 by_cases hm:1≤m∧m≤12
 ·have:m=1∨m=2∨m=3∨m=4∨m=5∨m=6∨m=7∨m=8∨m=9∨m=10∨m=11∨m=12:=by omega
  rcases this with rfl|rfl|rfl|rfl|rfl|rfl|rfl|rfl|rfl|rfl|rfl|rfl
  ·exact refdays_1 y w
  ·exact refdays_2 y w
  ·exact refdays_3 y w
  ·exact refdays_4 y w
  ·exact refdays_5 y w
  ·exact refdays_6 y w
  ·exact refdays_7 y w
  ·exact refdays_8 y w
  ·exact refdays_9 y w
  ·exact refdays_10 y w
  ·exact refdays_11 y w
  ·exact refdays_12 y w
 ·have B0:=Lib.hid (Below.refl w.heap.size w)
  have HL:Hid (daysI y m=0):=Lib.hid (by unfold daysI;rw[if_neg (by omega),if_neg (by omega),if_pos (by omega)])
  by_cases h6:m<1
  ·have q6:decide (m<1)=true:=decide_eq_true h6
   clear hm h6
   go_enter Tryz.func35,Tryz.ntmps35
   go_wp2
   go_ret
   exact⟨by rw[HL.out];rfl,B0.out.alloc B0.out.size _⟩
  ·have q6:decide (m<1)=false:=decide_eq_false h6
   have q7:decide (12<m)=true:=decide_eq_true (by omega)
   clear hm h6
   go_enter Tryz.func35,Tryz.ntmps35
   go_wp2
   go_ret
   exact⟨by rw[HL.out];rfl,B0.out.alloc B0.out.size _⟩
def refgoodB (y mo d h mi s:Int):Bool :=
 decide (1980≤y) && decide (y≤2107) && decide (1≤mo) && decide (mo≤12) && decide (1≤d) && decide (d≤daysI y mo) && decide (0≤h) && decide (h≤23) && decide (0≤mi) && decide (mi≤59) && decide (0≤s) && decide (s≤58) && (s.tmod 2 == 0)
theorem refgood_eq (y mo d h mi s:Int):refgoodB y mo d h mi s=tgoodB y mo d h mi s:=by
 rw[Bool.eq_iff_iff]
 unfold refgoodB tgoodB
 simp only[Bool.and_eq_true,decide_eq_true_eq,beq_iff_eq]
 have hd:(mo<1∨12<mo)→daysI y mo=0:=fun h=>by
  unfold daysI
  rw[if_neg (by omega),if_neg (by omega),if_pos h]
 constructor
 ·rintro⟨⟨⟨⟨⟨⟨⟨⟨⟨⟨⟨⟨a,b⟩,c⟩,d⟩,e⟩,f⟩,g⟩,h⟩,i⟩,j⟩,k⟩,l⟩,m⟩
  have h3:s.tmod 2=s % 2:=by rw[Int.tmod_eq_emod_of_nonneg (by omega)]
  refine⟨⟨⟨⟨⟨⟨⟨⟨⟨⟨?_,?_⟩,?_⟩,?_⟩,?_⟩,?_⟩,?_⟩,?_⟩,?_⟩,?_⟩,m⟩<;>omega
 ·rintro⟨⟨⟨⟨⟨⟨⟨⟨⟨⟨a,b⟩,c⟩,d⟩,e⟩,f⟩,g⟩,h⟩,i⟩,j⟩,k⟩
  have h3:s.tmod 2=s % 2:=by rw[Int.tmod_eq_emod_of_nonneg (by omega)]
  have m1:¬ mo<1:=fun hx=>by have:=hd (.inl hx);omega
  have m2:¬ 12<mo:=fun hx=>by have:=hd (.inr hx);omega
  refine⟨⟨⟨⟨⟨⟨⟨⟨⟨⟨⟨⟨?_,?_⟩,?_⟩,?_⟩,?_⟩,?_⟩,?_⟩,?_⟩,?_⟩,?_⟩,?_⟩,?_⟩,k⟩<;>omega
end Go.Proofs.YtgiogemkomgkhaaGreatDoor.Zp
