/-
  Times: the reference's Good, a part of its ways. (Printed by mkzptime3.py.)
-/
import Derived.Test.YtgiogemkomgkhaaGreatDoorKZpTime3
set_option linter.unusedVariables false
set_option linter.unusedSimpArgs false
namespace Go.Proofs.YtgiogemkomgkhaaGreatDoor.Zp
open Go.RowKit
set_option maxHeartbeats 1000000 in
set_option maxRecDepth 100000 in
theorem refgood_no7 (y mo d h mi s:Int) (w:World) (q0:decide (1980≤y)=true) (q1:decide (y≤2107)=true) (q2:decide (1≤mo)=true) (q3:decide (mo≤12)=true) (q4:decide (1≤d)=true) (q5:decide (d≤daysI y mo)=true) (q6:decide (0≤h)=true) (q7:decide (h≤23)=false) :
  Calls Tryz.prog 19 #[.agg #[.int .i64 y,.int .i64 mo,.int .i64 d,.int .i64 h,.int .i64 mi,.int .i64 s]] w fun e w'=>e= .returned (.bool false)∧Below w.heap.size w w':=by
 have B0:=Lib.hid ((Below.refl w.heap.size w).alloc (Nat.le_refl _) (.cells #[.int .i64 y,.int .i64 mo,.int .i64 d,.int .i64 h,.int .i64 mi,.int .i64 s] 51))
 have K:=Blk.new w #[.int .i64 y,.int .i64 mo,.int .i64 d,.int .i64 h,.int .i64 mi,.int .i64 s] 51
 go_enter Tryz.func19,Tryz.ntmps19
 go_wp2_with fail
 generalize w.alloc (.cells #[.int .i64 y,.int .i64 mo,.int .i64 d,.int .i64 h,.int .i64 mi,.int .i64 s] 51)=W at *
 obtain⟨U,f,HA⟩:=above W.heap.size W
 have c0:=HA.cell K K.lt 0 (.int .i64 y) rfl
 have c1:=HA.cell K K.lt 1 (.int .i64 mo) rfl
 have c2:=HA.cell K K.lt 2 (.int .i64 d) rfl
 have c3:=HA.cell K K.lt 3 (.int .i64 h) rfl
 have c4:=HA.cell K K.lt 4 (.int .i64 mi) rfl
 have c5:=HA.cell K K.lt 5 (.int .i64 s) rfl
 have HU:=Lib.hid HA
 have hd:=HA.all _ (Below.refl W.heap.size W).drew
 have hne:Nonempty U:=⟨hd.choose⟩
 clear HA K
 dsimp only [List.append]
 refine wp_region_class (C:=fun w'=>∃ u,w'=f u) (by kernel_rfl) (by kernel_rfl) hd ?_
 clear hd
 repeat (go_big_quiet_step (first|(go_at_call 35;refine(refdays_calls _ _ _).mono ?_;rintro e w1 ⟨rfl,hb⟩;exact⟨rfl,HU.out.next (Nat.le_refl _) hb⟩)))
 refine wpQuiet_nil ?_
 rintro wx ⟨u,rfl⟩
 go_wp2
 go_ret
 exact⟨rfl,B0.out.trans ((HU.out.below u).mono B0.out.size)⟩
set_option maxHeartbeats 1000000 in
set_option maxRecDepth 100000 in
theorem refgood_no8 (y mo d h mi s:Int) (w:World) (q0:decide (1980≤y)=true) (q1:decide (y≤2107)=true) (q2:decide (1≤mo)=true) (q3:decide (mo≤12)=true) (q4:decide (1≤d)=true) (q5:decide (d≤daysI y mo)=true) (q6:decide (0≤h)=true) (q7:decide (h≤23)=true) (q8:decide (0≤mi)=false) :
  Calls Tryz.prog 19 #[.agg #[.int .i64 y,.int .i64 mo,.int .i64 d,.int .i64 h,.int .i64 mi,.int .i64 s]] w fun e w'=>e= .returned (.bool false)∧Below w.heap.size w w':=by
 have B0:=Lib.hid ((Below.refl w.heap.size w).alloc (Nat.le_refl _) (.cells #[.int .i64 y,.int .i64 mo,.int .i64 d,.int .i64 h,.int .i64 mi,.int .i64 s] 51))
 have K:=Blk.new w #[.int .i64 y,.int .i64 mo,.int .i64 d,.int .i64 h,.int .i64 mi,.int .i64 s] 51
 go_enter Tryz.func19,Tryz.ntmps19
 go_wp2_with fail
 generalize w.alloc (.cells #[.int .i64 y,.int .i64 mo,.int .i64 d,.int .i64 h,.int .i64 mi,.int .i64 s] 51)=W at *
 obtain⟨U,f,HA⟩:=above W.heap.size W
 have c0:=HA.cell K K.lt 0 (.int .i64 y) rfl
 have c1:=HA.cell K K.lt 1 (.int .i64 mo) rfl
 have c2:=HA.cell K K.lt 2 (.int .i64 d) rfl
 have c3:=HA.cell K K.lt 3 (.int .i64 h) rfl
 have c4:=HA.cell K K.lt 4 (.int .i64 mi) rfl
 have c5:=HA.cell K K.lt 5 (.int .i64 s) rfl
 have HU:=Lib.hid HA
 have hd:=HA.all _ (Below.refl W.heap.size W).drew
 have hne:Nonempty U:=⟨hd.choose⟩
 clear HA K
 dsimp only [List.append]
 refine wp_region_class (C:=fun w'=>∃ u,w'=f u) (by kernel_rfl) (by kernel_rfl) hd ?_
 clear hd
 repeat (go_big_quiet_step (first|(go_at_call 35;refine(refdays_calls _ _ _).mono ?_;rintro e w1 ⟨rfl,hb⟩;exact⟨rfl,HU.out.next (Nat.le_refl _) hb⟩)))
 refine wpQuiet_nil ?_
 rintro wx ⟨u,rfl⟩
 go_wp2
 go_ret
 exact⟨rfl,B0.out.trans ((HU.out.below u).mono B0.out.size)⟩
set_option maxHeartbeats 1000000 in
set_option maxRecDepth 100000 in
theorem refgood_no9 (y mo d h mi s:Int) (w:World) (q0:decide (1980≤y)=true) (q1:decide (y≤2107)=true) (q2:decide (1≤mo)=true) (q3:decide (mo≤12)=true) (q4:decide (1≤d)=true) (q5:decide (d≤daysI y mo)=true) (q6:decide (0≤h)=true) (q7:decide (h≤23)=true) (q8:decide (0≤mi)=true) (q9:decide (mi≤59)=false) :
  Calls Tryz.prog 19 #[.agg #[.int .i64 y,.int .i64 mo,.int .i64 d,.int .i64 h,.int .i64 mi,.int .i64 s]] w fun e w'=>e= .returned (.bool false)∧Below w.heap.size w w':=by
 have B0:=Lib.hid ((Below.refl w.heap.size w).alloc (Nat.le_refl _) (.cells #[.int .i64 y,.int .i64 mo,.int .i64 d,.int .i64 h,.int .i64 mi,.int .i64 s] 51))
 have K:=Blk.new w #[.int .i64 y,.int .i64 mo,.int .i64 d,.int .i64 h,.int .i64 mi,.int .i64 s] 51
 go_enter Tryz.func19,Tryz.ntmps19
 go_wp2_with fail
 generalize w.alloc (.cells #[.int .i64 y,.int .i64 mo,.int .i64 d,.int .i64 h,.int .i64 mi,.int .i64 s] 51)=W at *
 obtain⟨U,f,HA⟩:=above W.heap.size W
 have c0:=HA.cell K K.lt 0 (.int .i64 y) rfl
 have c1:=HA.cell K K.lt 1 (.int .i64 mo) rfl
 have c2:=HA.cell K K.lt 2 (.int .i64 d) rfl
 have c3:=HA.cell K K.lt 3 (.int .i64 h) rfl
 have c4:=HA.cell K K.lt 4 (.int .i64 mi) rfl
 have c5:=HA.cell K K.lt 5 (.int .i64 s) rfl
 have HU:=Lib.hid HA
 have hd:=HA.all _ (Below.refl W.heap.size W).drew
 have hne:Nonempty U:=⟨hd.choose⟩
 clear HA K
 dsimp only [List.append]
 refine wp_region_class (C:=fun w'=>∃ u,w'=f u) (by kernel_rfl) (by kernel_rfl) hd ?_
 clear hd
 repeat (go_big_quiet_step (first|(go_at_call 35;refine(refdays_calls _ _ _).mono ?_;rintro e w1 ⟨rfl,hb⟩;exact⟨rfl,HU.out.next (Nat.le_refl _) hb⟩)))
 refine wpQuiet_nil ?_
 rintro wx ⟨u,rfl⟩
 go_wp2
 go_ret
 exact⟨rfl,B0.out.trans ((HU.out.below u).mono B0.out.size)⟩
set_option maxHeartbeats 1000000 in
set_option maxRecDepth 100000 in
theorem refgood_no10 (y mo d h mi s:Int) (w:World) (q0:decide (1980≤y)=true) (q1:decide (y≤2107)=true) (q2:decide (1≤mo)=true) (q3:decide (mo≤12)=true) (q4:decide (1≤d)=true) (q5:decide (d≤daysI y mo)=true) (q6:decide (0≤h)=true) (q7:decide (h≤23)=true) (q8:decide (0≤mi)=true) (q9:decide (mi≤59)=true) (q10:decide (0≤s)=false) :
  Calls Tryz.prog 19 #[.agg #[.int .i64 y,.int .i64 mo,.int .i64 d,.int .i64 h,.int .i64 mi,.int .i64 s]] w fun e w'=>e= .returned (.bool false)∧Below w.heap.size w w':=by
 have B0:=Lib.hid ((Below.refl w.heap.size w).alloc (Nat.le_refl _) (.cells #[.int .i64 y,.int .i64 mo,.int .i64 d,.int .i64 h,.int .i64 mi,.int .i64 s] 51))
 have K:=Blk.new w #[.int .i64 y,.int .i64 mo,.int .i64 d,.int .i64 h,.int .i64 mi,.int .i64 s] 51
 go_enter Tryz.func19,Tryz.ntmps19
 go_wp2_with fail
 generalize w.alloc (.cells #[.int .i64 y,.int .i64 mo,.int .i64 d,.int .i64 h,.int .i64 mi,.int .i64 s] 51)=W at *
 obtain⟨U,f,HA⟩:=above W.heap.size W
 have c0:=HA.cell K K.lt 0 (.int .i64 y) rfl
 have c1:=HA.cell K K.lt 1 (.int .i64 mo) rfl
 have c2:=HA.cell K K.lt 2 (.int .i64 d) rfl
 have c3:=HA.cell K K.lt 3 (.int .i64 h) rfl
 have c4:=HA.cell K K.lt 4 (.int .i64 mi) rfl
 have c5:=HA.cell K K.lt 5 (.int .i64 s) rfl
 have HU:=Lib.hid HA
 have hd:=HA.all _ (Below.refl W.heap.size W).drew
 have hne:Nonempty U:=⟨hd.choose⟩
 clear HA K
 dsimp only [List.append]
 refine wp_region_class (C:=fun w'=>∃ u,w'=f u) (by kernel_rfl) (by kernel_rfl) hd ?_
 clear hd
 repeat (go_big_quiet_step (first|(go_at_call 35;refine(refdays_calls _ _ _).mono ?_;rintro e w1 ⟨rfl,hb⟩;exact⟨rfl,HU.out.next (Nat.le_refl _) hb⟩)))
 refine wpQuiet_nil ?_
 rintro wx ⟨u,rfl⟩
 go_wp2
 go_ret
 exact⟨rfl,B0.out.trans ((HU.out.below u).mono B0.out.size)⟩
set_option maxHeartbeats 1000000 in
set_option maxRecDepth 100000 in
theorem refgood_no11 (y mo d h mi s:Int) (w:World) (q0:decide (1980≤y)=true) (q1:decide (y≤2107)=true) (q2:decide (1≤mo)=true) (q3:decide (mo≤12)=true) (q4:decide (1≤d)=true) (q5:decide (d≤daysI y mo)=true) (q6:decide (0≤h)=true) (q7:decide (h≤23)=true) (q8:decide (0≤mi)=true) (q9:decide (mi≤59)=true) (q10:decide (0≤s)=true) (q11:decide (s≤58)=false) :
  Calls Tryz.prog 19 #[.agg #[.int .i64 y,.int .i64 mo,.int .i64 d,.int .i64 h,.int .i64 mi,.int .i64 s]] w fun e w'=>e= .returned (.bool false)∧Below w.heap.size w w':=by
 have B0:=Lib.hid ((Below.refl w.heap.size w).alloc (Nat.le_refl _) (.cells #[.int .i64 y,.int .i64 mo,.int .i64 d,.int .i64 h,.int .i64 mi,.int .i64 s] 51))
 have K:=Blk.new w #[.int .i64 y,.int .i64 mo,.int .i64 d,.int .i64 h,.int .i64 mi,.int .i64 s] 51
 go_enter Tryz.func19,Tryz.ntmps19
 go_wp2_with fail
 generalize w.alloc (.cells #[.int .i64 y,.int .i64 mo,.int .i64 d,.int .i64 h,.int .i64 mi,.int .i64 s] 51)=W at *
 obtain⟨U,f,HA⟩:=above W.heap.size W
 have c0:=HA.cell K K.lt 0 (.int .i64 y) rfl
 have c1:=HA.cell K K.lt 1 (.int .i64 mo) rfl
 have c2:=HA.cell K K.lt 2 (.int .i64 d) rfl
 have c3:=HA.cell K K.lt 3 (.int .i64 h) rfl
 have c4:=HA.cell K K.lt 4 (.int .i64 mi) rfl
 have c5:=HA.cell K K.lt 5 (.int .i64 s) rfl
 have HU:=Lib.hid HA
 have hd:=HA.all _ (Below.refl W.heap.size W).drew
 have hne:Nonempty U:=⟨hd.choose⟩
 clear HA K
 dsimp only [List.append]
 refine wp_region_class (C:=fun w'=>∃ u,w'=f u) (by kernel_rfl) (by kernel_rfl) hd ?_
 clear hd
 repeat (go_big_quiet_step (first|(go_at_call 35;refine(refdays_calls _ _ _).mono ?_;rintro e w1 ⟨rfl,hb⟩;exact⟨rfl,HU.out.next (Nat.le_refl _) hb⟩)))
 refine wpQuiet_nil ?_
 rintro wx ⟨u,rfl⟩
 go_wp2
 go_ret
 exact⟨rfl,B0.out.trans ((HU.out.below u).mono B0.out.size)⟩
set_option maxHeartbeats 1000000 in
set_option maxRecDepth 100000 in
theorem refgood_no12 (y mo d h mi s:Int) (w:World) (q0:decide (1980≤y)=true) (q1:decide (y≤2107)=true) (q2:decide (1≤mo)=true) (q3:decide (mo≤12)=true) (q4:decide (1≤d)=true) (q5:decide (d≤daysI y mo)=true) (q6:decide (0≤h)=true) (q7:decide (h≤23)=true) (q8:decide (0≤mi)=true) (q9:decide (mi≤59)=true) (q10:decide (0≤s)=true) (q11:decide (s≤58)=true) (q12:(s.tmod 2 == 0)=false) :
  Calls Tryz.prog 19 #[.agg #[.int .i64 y,.int .i64 mo,.int .i64 d,.int .i64 h,.int .i64 mi,.int .i64 s]] w fun e w'=>e= .returned (.bool false)∧Below w.heap.size w w':=by
 have B0:=Lib.hid ((Below.refl w.heap.size w).alloc (Nat.le_refl _) (.cells #[.int .i64 y,.int .i64 mo,.int .i64 d,.int .i64 h,.int .i64 mi,.int .i64 s] 51))
 have K:=Blk.new w #[.int .i64 y,.int .i64 mo,.int .i64 d,.int .i64 h,.int .i64 mi,.int .i64 s] 51
 go_enter Tryz.func19,Tryz.ntmps19
 go_wp2_with fail
 generalize w.alloc (.cells #[.int .i64 y,.int .i64 mo,.int .i64 d,.int .i64 h,.int .i64 mi,.int .i64 s] 51)=W at *
 obtain⟨U,f,HA⟩:=above W.heap.size W
 have c0:=HA.cell K K.lt 0 (.int .i64 y) rfl
 have c1:=HA.cell K K.lt 1 (.int .i64 mo) rfl
 have c2:=HA.cell K K.lt 2 (.int .i64 d) rfl
 have c3:=HA.cell K K.lt 3 (.int .i64 h) rfl
 have c4:=HA.cell K K.lt 4 (.int .i64 mi) rfl
 have c5:=HA.cell K K.lt 5 (.int .i64 s) rfl
 have HU:=Lib.hid HA
 have hd:=HA.all _ (Below.refl W.heap.size W).drew
 have hne:Nonempty U:=⟨hd.choose⟩
 clear HA K
 dsimp only [List.append]
 refine wp_region_class (C:=fun w'=>∃ u,w'=f u) (by kernel_rfl) (by kernel_rfl) hd ?_
 clear hd
 repeat (go_big_quiet_step (first|(go_at_call 35;refine(refdays_calls _ _ _).mono ?_;rintro e w1 ⟨rfl,hb⟩;exact⟨rfl,HU.out.next (Nat.le_refl _) hb⟩)))
 refine wpQuiet_nil ?_
 rintro wx ⟨u,rfl⟩
 go_wp2
 go_ret
 exact⟨rfl,B0.out.trans ((HU.out.below u).mono B0.out.size)⟩
set_option maxHeartbeats 1000000 in
set_option maxRecDepth 100000 in
theorem refgood_all (y mo d h mi s:Int) (w:World) (q0:decide (1980≤y)=true) (q1:decide (y≤2107)=true) (q2:decide (1≤mo)=true) (q3:decide (mo≤12)=true) (q4:decide (1≤d)=true) (q5:decide (d≤daysI y mo)=true) (q6:decide (0≤h)=true) (q7:decide (h≤23)=true) (q8:decide (0≤mi)=true) (q9:decide (mi≤59)=true) (q10:decide (0≤s)=true) (q11:decide (s≤58)=true) (q12:(s.tmod 2 == 0)=true) :
  Calls Tryz.prog 19 #[.agg #[.int .i64 y,.int .i64 mo,.int .i64 d,.int .i64 h,.int .i64 mi,.int .i64 s]] w fun e w'=>e= .returned (.bool true)∧Below w.heap.size w w':=by
 have B0:=Lib.hid ((Below.refl w.heap.size w).alloc (Nat.le_refl _) (.cells #[.int .i64 y,.int .i64 mo,.int .i64 d,.int .i64 h,.int .i64 mi,.int .i64 s] 51))
 have K:=Blk.new w #[.int .i64 y,.int .i64 mo,.int .i64 d,.int .i64 h,.int .i64 mi,.int .i64 s] 51
 go_enter Tryz.func19,Tryz.ntmps19
 go_wp2_with fail
 generalize w.alloc (.cells #[.int .i64 y,.int .i64 mo,.int .i64 d,.int .i64 h,.int .i64 mi,.int .i64 s] 51)=W at *
 obtain⟨U,f,HA⟩:=above W.heap.size W
 have c0:=HA.cell K K.lt 0 (.int .i64 y) rfl
 have c1:=HA.cell K K.lt 1 (.int .i64 mo) rfl
 have c2:=HA.cell K K.lt 2 (.int .i64 d) rfl
 have c3:=HA.cell K K.lt 3 (.int .i64 h) rfl
 have c4:=HA.cell K K.lt 4 (.int .i64 mi) rfl
 have c5:=HA.cell K K.lt 5 (.int .i64 s) rfl
 have HU:=Lib.hid HA
 have hd:=HA.all _ (Below.refl W.heap.size W).drew
 have hne:Nonempty U:=⟨hd.choose⟩
 clear HA K
 dsimp only [List.append]
 refine wp_region_class (C:=fun w'=>∃ u,w'=f u) (by kernel_rfl) (by kernel_rfl) hd ?_
 clear hd
 repeat (go_big_quiet_step (first|(go_at_call 35;refine(refdays_calls _ _ _).mono ?_;rintro e w1 ⟨rfl,hb⟩;exact⟨rfl,HU.out.next (Nat.le_refl _) hb⟩)))
 refine wpQuiet_nil ?_
 rintro wx ⟨u,rfl⟩
 go_wp2
 go_ret
 exact⟨rfl,B0.out.trans ((HU.out.below u).mono B0.out.size)⟩
end Go.Proofs.YtgiogemkomgkhaaGreatDoor.Zp
