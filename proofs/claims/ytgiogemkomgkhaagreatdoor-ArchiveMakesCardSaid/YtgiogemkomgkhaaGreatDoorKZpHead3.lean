/-
  Heads: the reference's Good answers goodH. (Printed by mkzphead2.py.)
-/
import Derived.Test.YtgiogemkomgkhaaGreatDoorKZpHead
import Derived.Test.YtgiogemkomgkhaaGreatDoorKZpTime3c
import Derived.Test.YtgiogemkomgkhaaGreatDoorKNm
set_option linter.unusedVariables false
set_option linter.unusedSimpArgs false
namespace Go.Proofs.YtgiogemkomgkhaaGreatDoor.Zp
open Go.RowKit Go.Shelf YtgiogemkomgkhaaGreatDoor.Nm
set_option maxHeartbeats 1000000 in
set_option maxRecDepth 100000 in
theorem rgood_0 (name:ByteArray) (y mo d hh mi s packed size sum pos:Int) (w:World) (hn:name.size≤140737488351232) (p0:0≤packed) (s0:0≤size)  (kept:Bool) (q0:checkB name=false) :
  Calls Tryz.prog 49 #[.agg #[.string name,.int .i64 y,.int .i64 mo,.int .i64 d,.int .i64 hh,.int .i64 mi,.int .i64 s,.int .u64 packed,.int .u64 size,.int .u32 sum,.int .u64 pos,.bool kept]] w fun e w'=>e= .returned (.bool false)∧Below w.heap.size w w':=by
 have B0:=Lib.hid ((Below.refl w.heap.size w).alloc (Nat.le_refl _) (.cells #[.string name,.int .i64 y,.int .i64 mo,.int .i64 d,.int .i64 hh,.int .i64 mi,.int .i64 s,.int .u64 packed,.int .u64 size,.int .u32 sum,.int .u64 pos,.bool kept] 84))
 have K:=Lib.hid (Blk.new w #[.string name,.int .i64 y,.int .i64 mo,.int .i64 d,.int .i64 hh,.int .i64 mi,.int .i64 s,.int .u64 packed,.int .u64 size,.int .u32 sum,.int .u64 pos,.bool kept] 84)
 go_enter Tryz.func49,Tryz.ntmps49
 go_wp2_with (first|(go_at_call 17;refine(refcheck_calls _ _ hn).mono ?_;rintro e w1 ⟨rfl,rfl⟩)|(go_at_call 19;refine(refgood_calls ⟨y,mo,d,hh,mi,s⟩ _).mono ?_;rintro e w2 ⟨rfl,hb⟩;replace B0:=Lib.hid (B0.out.trans (hb.mono B0.out.size));replace K:=Lib.hid (K.out.below hb);have j7:=K.out.cell 7;have j8:=K.out.cell 8;have j10:=K.out.cell 10;have j11:=K.out.cell 11;simp only[List.getElem?_toArray,List.getElem?_cons_zero,List.getElem?_cons_succ]at j7 j8 j10 j11;clear hb))
 go_ret
 exact⟨rfl,B0.out⟩
set_option maxHeartbeats 1000000 in
set_option maxRecDepth 100000 in
theorem rgood_1 (name:ByteArray) (y mo d hh mi s packed size sum pos:Int) (w:World) (hn:name.size≤140737488351232) (p0:0≤packed) (s0:0≤size)  (kept:Bool) (q0:checkB name=true) (q1:tgood ⟨y,mo,d,hh,mi,s⟩=false) :
  Calls Tryz.prog 49 #[.agg #[.string name,.int .i64 y,.int .i64 mo,.int .i64 d,.int .i64 hh,.int .i64 mi,.int .i64 s,.int .u64 packed,.int .u64 size,.int .u32 sum,.int .u64 pos,.bool kept]] w fun e w'=>e= .returned (.bool false)∧Below w.heap.size w w':=by
 have B0:=Lib.hid ((Below.refl w.heap.size w).alloc (Nat.le_refl _) (.cells #[.string name,.int .i64 y,.int .i64 mo,.int .i64 d,.int .i64 hh,.int .i64 mi,.int .i64 s,.int .u64 packed,.int .u64 size,.int .u32 sum,.int .u64 pos,.bool kept] 84))
 have K:=Lib.hid (Blk.new w #[.string name,.int .i64 y,.int .i64 mo,.int .i64 d,.int .i64 hh,.int .i64 mi,.int .i64 s,.int .u64 packed,.int .u64 size,.int .u32 sum,.int .u64 pos,.bool kept] 84)
 go_enter Tryz.func49,Tryz.ntmps49
 go_wp2_with (first|(go_at_call 17;refine(refcheck_calls _ _ hn).mono ?_;rintro e w1 ⟨rfl,rfl⟩)|(go_at_call 19;refine(refgood_calls ⟨y,mo,d,hh,mi,s⟩ _).mono ?_;rintro e w2 ⟨rfl,hb⟩;replace B0:=Lib.hid (B0.out.trans (hb.mono B0.out.size));replace K:=Lib.hid (K.out.below hb);have j7:=K.out.cell 7;have j8:=K.out.cell 8;have j10:=K.out.cell 10;have j11:=K.out.cell 11;simp only[List.getElem?_toArray,List.getElem?_cons_zero,List.getElem?_cons_succ]at j7 j8 j10 j11;clear hb))
 go_ret
 exact⟨rfl,B0.out⟩
set_option maxHeartbeats 1000000 in
set_option maxRecDepth 100000 in
theorem rgood_2 (name:ByteArray) (y mo d hh mi s packed size sum pos:Int) (w:World) (hn:name.size≤140737488351232) (p0:0≤packed) (s0:0≤size)  (kept:Bool) (q0:checkB name=true) (q1:tgood ⟨y,mo,d,hh,mi,s⟩=true) (q2:decide (packed<4611686018427387904)=false) :
  Calls Tryz.prog 49 #[.agg #[.string name,.int .i64 y,.int .i64 mo,.int .i64 d,.int .i64 hh,.int .i64 mi,.int .i64 s,.int .u64 packed,.int .u64 size,.int .u32 sum,.int .u64 pos,.bool kept]] w fun e w'=>e= .returned (.bool false)∧Below w.heap.size w w':=by
 have B0:=Lib.hid ((Below.refl w.heap.size w).alloc (Nat.le_refl _) (.cells #[.string name,.int .i64 y,.int .i64 mo,.int .i64 d,.int .i64 hh,.int .i64 mi,.int .i64 s,.int .u64 packed,.int .u64 size,.int .u32 sum,.int .u64 pos,.bool kept] 84))
 have K:=Lib.hid (Blk.new w #[.string name,.int .i64 y,.int .i64 mo,.int .i64 d,.int .i64 hh,.int .i64 mi,.int .i64 s,.int .u64 packed,.int .u64 size,.int .u32 sum,.int .u64 pos,.bool kept] 84)
 go_enter Tryz.func49,Tryz.ntmps49
 go_wp2_with (first|(go_at_call 17;refine(refcheck_calls _ _ hn).mono ?_;rintro e w1 ⟨rfl,rfl⟩)|(go_at_call 19;refine(refgood_calls ⟨y,mo,d,hh,mi,s⟩ _).mono ?_;rintro e w2 ⟨rfl,hb⟩;replace B0:=Lib.hid (B0.out.trans (hb.mono B0.out.size));replace K:=Lib.hid (K.out.below hb);have j7:=K.out.cell 7;have j8:=K.out.cell 8;have j10:=K.out.cell 10;have j11:=K.out.cell 11;simp only[List.getElem?_toArray,List.getElem?_cons_zero,List.getElem?_cons_succ]at j7 j8 j10 j11;clear hb))
 go_ret
 exact⟨rfl,B0.out⟩
set_option maxHeartbeats 1000000 in
set_option maxRecDepth 100000 in
theorem rgood_3 (name:ByteArray) (y mo d hh mi s packed size sum pos:Int) (w:World) (hn:name.size≤140737488351232) (p0:0≤packed) (s0:0≤size)  (kept:Bool) (q0:checkB name=true) (q1:tgood ⟨y,mo,d,hh,mi,s⟩=true) (q2:decide (packed<4611686018427387904)=true) (q3:decide (size<4611686018427387904)=false) :
  Calls Tryz.prog 49 #[.agg #[.string name,.int .i64 y,.int .i64 mo,.int .i64 d,.int .i64 hh,.int .i64 mi,.int .i64 s,.int .u64 packed,.int .u64 size,.int .u32 sum,.int .u64 pos,.bool kept]] w fun e w'=>e= .returned (.bool false)∧Below w.heap.size w w':=by
 have B0:=Lib.hid ((Below.refl w.heap.size w).alloc (Nat.le_refl _) (.cells #[.string name,.int .i64 y,.int .i64 mo,.int .i64 d,.int .i64 hh,.int .i64 mi,.int .i64 s,.int .u64 packed,.int .u64 size,.int .u32 sum,.int .u64 pos,.bool kept] 84))
 have K:=Lib.hid (Blk.new w #[.string name,.int .i64 y,.int .i64 mo,.int .i64 d,.int .i64 hh,.int .i64 mi,.int .i64 s,.int .u64 packed,.int .u64 size,.int .u32 sum,.int .u64 pos,.bool kept] 84)
 go_enter Tryz.func49,Tryz.ntmps49
 go_wp2_with (first|(go_at_call 17;refine(refcheck_calls _ _ hn).mono ?_;rintro e w1 ⟨rfl,rfl⟩)|(go_at_call 19;refine(refgood_calls ⟨y,mo,d,hh,mi,s⟩ _).mono ?_;rintro e w2 ⟨rfl,hb⟩;replace B0:=Lib.hid (B0.out.trans (hb.mono B0.out.size));replace K:=Lib.hid (K.out.below hb);have j7:=K.out.cell 7;have j8:=K.out.cell 8;have j10:=K.out.cell 10;have j11:=K.out.cell 11;simp only[List.getElem?_toArray,List.getElem?_cons_zero,List.getElem?_cons_succ]at j7 j8 j10 j11;clear hb))
 go_ret
 exact⟨rfl,B0.out⟩
set_option maxHeartbeats 1000000 in
set_option maxRecDepth 100000 in
theorem rgood_4 (name:ByteArray) (y mo d hh mi s packed size sum pos:Int) (w:World) (hn:name.size≤140737488351232) (p0:0≤packed) (s0:0≤size)  (kept:Bool) (q0:checkB name=true) (q1:tgood ⟨y,mo,d,hh,mi,s⟩=true) (q2:decide (packed<4611686018427387904)=true) (q3:decide (size<4611686018427387904)=true) (q4:decide (pos<4611686018427387904)=false) :
  Calls Tryz.prog 49 #[.agg #[.string name,.int .i64 y,.int .i64 mo,.int .i64 d,.int .i64 hh,.int .i64 mi,.int .i64 s,.int .u64 packed,.int .u64 size,.int .u32 sum,.int .u64 pos,.bool kept]] w fun e w'=>e= .returned (.bool false)∧Below w.heap.size w w':=by
 have B0:=Lib.hid ((Below.refl w.heap.size w).alloc (Nat.le_refl _) (.cells #[.string name,.int .i64 y,.int .i64 mo,.int .i64 d,.int .i64 hh,.int .i64 mi,.int .i64 s,.int .u64 packed,.int .u64 size,.int .u32 sum,.int .u64 pos,.bool kept] 84))
 have K:=Lib.hid (Blk.new w #[.string name,.int .i64 y,.int .i64 mo,.int .i64 d,.int .i64 hh,.int .i64 mi,.int .i64 s,.int .u64 packed,.int .u64 size,.int .u32 sum,.int .u64 pos,.bool kept] 84)
 go_enter Tryz.func49,Tryz.ntmps49
 go_wp2_with (first|(go_at_call 17;refine(refcheck_calls _ _ hn).mono ?_;rintro e w1 ⟨rfl,rfl⟩)|(go_at_call 19;refine(refgood_calls ⟨y,mo,d,hh,mi,s⟩ _).mono ?_;rintro e w2 ⟨rfl,hb⟩;replace B0:=Lib.hid (B0.out.trans (hb.mono B0.out.size));replace K:=Lib.hid (K.out.below hb);have j7:=K.out.cell 7;have j8:=K.out.cell 8;have j10:=K.out.cell 10;have j11:=K.out.cell 11;simp only[List.getElem?_toArray,List.getElem?_cons_zero,List.getElem?_cons_succ]at j7 j8 j10 j11;clear hb))
 go_ret
 exact⟨rfl,B0.out⟩
set_option maxHeartbeats 1000000 in
set_option maxRecDepth 100000 in
theorem rgood_f (name:ByteArray) (y mo d hh mi s packed size sum pos:Int) (w:World) (hn:name.size≤140737488351232) (p0:0≤packed) (s0:0≤size) (q0:checkB name=true) (q1:tgood ⟨y,mo,d,hh,mi,s⟩=true) (q2:decide (packed<4611686018427387904)=true) (q3:decide (size<4611686018427387904)=true) (q4:decide (pos<4611686018427387904)=true) (pl:packed<4611686018427387904) (sl:size<4611686018427387904) :
  Calls Tryz.prog 49 #[.agg #[.string name,.int .i64 y,.int .i64 mo,.int .i64 d,.int .i64 hh,.int .i64 mi,.int .i64 s,.int .u64 packed,.int .u64 size,.int .u32 sum,.int .u64 pos,.bool false]] w fun e w'=>e= .returned (.bool true)∧Below w.heap.size w w':=by
 have B0:=Lib.hid ((Below.refl w.heap.size w).alloc (Nat.le_refl _) (.cells #[.string name,.int .i64 y,.int .i64 mo,.int .i64 d,.int .i64 hh,.int .i64 mi,.int .i64 s,.int .u64 packed,.int .u64 size,.int .u32 sum,.int .u64 pos,.bool false] 84))
 have K:=Lib.hid (Blk.new w #[.string name,.int .i64 y,.int .i64 mo,.int .i64 d,.int .i64 hh,.int .i64 mi,.int .i64 s,.int .u64 packed,.int .u64 size,.int .u32 sum,.int .u64 pos,.bool false] 84)
 go_enter Tryz.func49,Tryz.ntmps49
 go_wp2_with (first|(go_at_call 17;refine(refcheck_calls _ _ hn).mono ?_;rintro e w1 ⟨rfl,rfl⟩)|(go_at_call 19;refine(refgood_calls ⟨y,mo,d,hh,mi,s⟩ _).mono ?_;rintro e w2 ⟨rfl,hb⟩;replace B0:=Lib.hid (B0.out.trans (hb.mono B0.out.size));replace K:=Lib.hid (K.out.below hb);have j7:=K.out.cell 7;have j8:=K.out.cell 8;have j10:=K.out.cell 10;have j11:=K.out.cell 11;simp only[List.getElem?_toArray,List.getElem?_cons_zero,List.getElem?_cons_succ]at j7 j8 j10 j11;clear hb))
 go_ret
 exact⟨rfl,B0.out⟩
set_option maxHeartbeats 1000000 in
set_option maxRecDepth 100000 in
theorem rgood_t (name:ByteArray) (y mo d hh mi s packed size sum pos:Int) (w:World) (hn:name.size≤140737488351232) (p0:0≤packed) (s0:0≤size) (q0:checkB name=true) (q1:tgood ⟨y,mo,d,hh,mi,s⟩=true) (q2:decide (packed<4611686018427387904)=true) (q3:decide (size<4611686018427387904)=true) (q4:decide (pos<4611686018427387904)=true) (pl:packed<4611686018427387904) (sl:size<4611686018427387904) (z:(packed+size == 0)=true) :
  Calls Tryz.prog 49 #[.agg #[.string name,.int .i64 y,.int .i64 mo,.int .i64 d,.int .i64 hh,.int .i64 mi,.int .i64 s,.int .u64 packed,.int .u64 size,.int .u32 sum,.int .u64 pos,.bool true]] w fun e w'=>e= .returned (.bool true)∧Below w.heap.size w w':=by
 have B0:=Lib.hid ((Below.refl w.heap.size w).alloc (Nat.le_refl _) (.cells #[.string name,.int .i64 y,.int .i64 mo,.int .i64 d,.int .i64 hh,.int .i64 mi,.int .i64 s,.int .u64 packed,.int .u64 size,.int .u32 sum,.int .u64 pos,.bool true] 84))
 have K:=Lib.hid (Blk.new w #[.string name,.int .i64 y,.int .i64 mo,.int .i64 d,.int .i64 hh,.int .i64 mi,.int .i64 s,.int .u64 packed,.int .u64 size,.int .u32 sum,.int .u64 pos,.bool true] 84)
 go_enter Tryz.func49,Tryz.ntmps49
 go_wp2_with (first|(go_at_call 17;refine(refcheck_calls _ _ hn).mono ?_;rintro e w1 ⟨rfl,rfl⟩)|(go_at_call 19;refine(refgood_calls ⟨y,mo,d,hh,mi,s⟩ _).mono ?_;rintro e w2 ⟨rfl,hb⟩;replace B0:=Lib.hid (B0.out.trans (hb.mono B0.out.size));replace K:=Lib.hid (K.out.below hb);have j7:=K.out.cell 7;have j8:=K.out.cell 8;have j10:=K.out.cell 10;have j11:=K.out.cell 11;simp only[List.getElem?_toArray,List.getElem?_cons_zero,List.getElem?_cons_succ]at j7 j8 j10 j11;clear hb))
 go_ret
 exact⟨rfl,B0.out⟩
set_option maxHeartbeats 1000000 in
set_option maxRecDepth 100000 in
theorem rgood_n (name:ByteArray) (y mo d hh mi s packed size sum pos:Int) (w:World) (hn:name.size≤140737488351232) (p0:0≤packed) (s0:0≤size) (q0:checkB name=true) (q1:tgood ⟨y,mo,d,hh,mi,s⟩=true) (q2:decide (packed<4611686018427387904)=true) (q3:decide (size<4611686018427387904)=true) (q4:decide (pos<4611686018427387904)=true) (pl:packed<4611686018427387904) (sl:size<4611686018427387904) (z:(packed+size == 0)=false) :
  Calls Tryz.prog 49 #[.agg #[.string name,.int .i64 y,.int .i64 mo,.int .i64 d,.int .i64 hh,.int .i64 mi,.int .i64 s,.int .u64 packed,.int .u64 size,.int .u32 sum,.int .u64 pos,.bool true]] w fun e w'=>e= .returned (.bool false)∧Below w.heap.size w w':=by
 have B0:=Lib.hid ((Below.refl w.heap.size w).alloc (Nat.le_refl _) (.cells #[.string name,.int .i64 y,.int .i64 mo,.int .i64 d,.int .i64 hh,.int .i64 mi,.int .i64 s,.int .u64 packed,.int .u64 size,.int .u32 sum,.int .u64 pos,.bool true] 84))
 have K:=Lib.hid (Blk.new w #[.string name,.int .i64 y,.int .i64 mo,.int .i64 d,.int .i64 hh,.int .i64 mi,.int .i64 s,.int .u64 packed,.int .u64 size,.int .u32 sum,.int .u64 pos,.bool true] 84)
 go_enter Tryz.func49,Tryz.ntmps49
 go_wp2_with (first|(go_at_call 17;refine(refcheck_calls _ _ hn).mono ?_;rintro e w1 ⟨rfl,rfl⟩)|(go_at_call 19;refine(refgood_calls ⟨y,mo,d,hh,mi,s⟩ _).mono ?_;rintro e w2 ⟨rfl,hb⟩;replace B0:=Lib.hid (B0.out.trans (hb.mono B0.out.size));replace K:=Lib.hid (K.out.below hb);have j7:=K.out.cell 7;have j8:=K.out.cell 8;have j10:=K.out.cell 10;have j11:=K.out.cell 11;simp only[List.getElem?_toArray,List.getElem?_cons_zero,List.getElem?_cons_succ]at j7 j8 j10 j11;clear hb))
 go_ret
 exact⟨rfl,B0.out⟩
theorem rgood_calls (h:Hd) (w:World) (ho:h.ok):Calls Tryz.prog 49 #[h.val] w fun e w'=>e= .returned (.bool (goodH h))∧Below w.heap.size w w':=by
 obtain⟨name,⟨y,mo,d,hh,mi,s⟩,packed,size,sum,pos,kept⟩:=h
 obtain⟨hn,⟨p0,_⟩,⟨s0,_⟩,_,_⟩:=ho
 simp only at hn p0 s0
 simp only[Hd.val]
 cases q0:checkB name with
 | false =>
  have e:goodH ⟨name,⟨y,mo,d,hh,mi,s⟩,packed,size,sum,pos,kept⟩=false:=by simp only[goodH,q0,Bool.and_false,Bool.false_and]
  rw[e]
  exact rgood_0 name y mo d hh mi s packed size sum pos w hn p0 s0 kept q0
 | true =>
  cases q1:tgood ⟨y,mo,d,hh,mi,s⟩ with
  | false =>
   have e:goodH ⟨name,⟨y,mo,d,hh,mi,s⟩,packed,size,sum,pos,kept⟩=false:=by simp only[goodH,q1,Bool.and_false,Bool.false_and]
   rw[e]
   exact rgood_1 name y mo d hh mi s packed size sum pos w hn p0 s0 kept q0 q1
  | true =>
   cases q2:decide (packed<4611686018427387904) with
   | false =>
    have e:goodH ⟨name,⟨y,mo,d,hh,mi,s⟩,packed,size,sum,pos,kept⟩=false:=by simp only[goodH,q2,Bool.and_false,Bool.false_and]
    rw[e]
    exact rgood_2 name y mo d hh mi s packed size sum pos w hn p0 s0 kept q0 q1 q2
   | true =>
    cases q3:decide (size<4611686018427387904) with
    | false =>
     have e:goodH ⟨name,⟨y,mo,d,hh,mi,s⟩,packed,size,sum,pos,kept⟩=false:=by simp only[goodH,q3,Bool.and_false,Bool.false_and]
     rw[e]
     exact rgood_3 name y mo d hh mi s packed size sum pos w hn p0 s0 kept q0 q1 q2 q3
    | true =>
     cases q4:decide (pos<4611686018427387904) with
     | false =>
      have e:goodH ⟨name,⟨y,mo,d,hh,mi,s⟩,packed,size,sum,pos,kept⟩=false:=by simp only[goodH,q4,Bool.and_false,Bool.false_and]
      rw[e]
      exact rgood_4 name y mo d hh mi s packed size sum pos w hn p0 s0 kept q0 q1 q2 q3 q4
     | true =>
      have pl:=of_decide_eq_true q2
      have sl:=of_decide_eq_true q3
      cases kept with
      | false =>
       have e:goodH ⟨name,⟨y,mo,d,hh,mi,s⟩,packed,size,sum,pos,false⟩=true:=by simp only[goodH,q0,q1,q2,q3,q4,Bool.and_true,Bool.true_and,Bool.not_false,Bool.true_or]
       rw[e]
       exact rgood_f name y mo d hh mi s packed size sum pos w hn p0 s0 q0 q1 q2 q3 q4 pl sl
      | true =>
       by_cases z0:packed=0∧size=0
       ·have y1:decide (packed=0)=true:=decide_eq_true z0.1
        have y2:decide (size=0)=true:=decide_eq_true z0.2
        have e:goodH ⟨name,⟨y,mo,d,hh,mi,s⟩,packed,size,sum,pos,true⟩=true:=by simp only[goodH,q0,q1,q2,q3,q4,y1,y2,Bool.and_true,Bool.true_and,Bool.not_true,Bool.false_or]
        rw[e]
        exact rgood_t name y mo d hh mi s packed size sum pos w hn p0 s0 q0 q1 q2 q3 q4 pl sl (by rw[beq_iff_eq];omega)
       ·have e:goodH ⟨name,⟨y,mo,d,hh,mi,s⟩,packed,size,sum,pos,true⟩=false:=by
         rw[Bool.eq_false_iff]
         intro hx
         simp only[goodH,Bool.and_eq_true,Bool.or_eq_true,decide_eq_true_eq,Bool.not_true]at hx
         rcases hx.2 with h1|h1
         ·cases h1
         ·exact z0 h1
        rw[e]
        exact rgood_n name y mo d hh mi s packed size sum pos w hn p0 s0 q0 q1 q2 q3 q4 pl sl (by rw[beq_eq_false_iff_ne];omega)
end Go.Proofs.YtgiogemkomgkhaaGreatDoor.Zp
