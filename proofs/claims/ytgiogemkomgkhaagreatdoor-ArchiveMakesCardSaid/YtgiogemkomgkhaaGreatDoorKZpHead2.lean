/-
  Heads: zip.Head's Good answers goodH. (Printed by mkzphead2.py.)
-/
import Derived.Test.YtgiogemkomgkhaaGreatDoorKZpHead
set_option linter.unusedVariables false
set_option linter.unusedSimpArgs false
namespace Go.Proofs.YtgiogemkomgkhaaGreatDoor.Zp
open Go.RowKit Go.Shelf YtgiogemkomgkhaaGreatDoor.Nm
set_option maxHeartbeats 1000000 in
set_option maxRecDepth 100000 in
theorem hgood_f0 (name:ByteArray) (y mo d hh mi s packed size sum pos:Int) (w:World) (hn:name.size≤140737488351232) (hT:Tabs w) (q0:checkB name=false) :
  Calls Tryz.prog 61 #[.agg #[.string name,.int .i64 y,.int .i64 mo,.int .i64 d,.int .i64 hh,.int .i64 mi,.int .i64 s,.int .u64 packed,.int .u64 size,.int .u32 sum,.int .u64 pos,.bool false]] w fun e w'=>e= .returned (.bool false)∧Below w.heap.size w w':=by
 have B0:=Lib.hid ((Below.refl w.heap.size w).alloc (Nat.le_refl _) (.cells #[.string name,.int .i64 y,.int .i64 mo,.int .i64 d,.int .i64 hh,.int .i64 mi,.int .i64 s,.int .u64 packed,.int .u64 size,.int .u32 sum,.int .u64 pos,.bool false] 121))
 have hT0:Tabs (w.alloc (.cells #[.string name,.int .i64 y,.int .i64 mo,.int .i64 d,.int .i64 hh,.int .i64 mi,.int .i64 s,.int .u64 packed,.int .u64 size,.int .u32 sum,.int .u64 pos,.bool false] 121)):=hT.below B0.out
 have K:=Lib.hid (Blk.new w #[.string name,.int .i64 y,.int .i64 mo,.int .i64 d,.int .i64 hh,.int .i64 mi,.int .i64 s,.int .u64 packed,.int .u64 size,.int .u32 sum,.int .u64 pos,.bool false] 121)
 have v0:errN true=0:=rfl
 have v1:errN false=9:=rfl
 go_enter Tryz.func61,Tryz.ntmps61
 go_wp2_with (first|(go_at_call 39;refine(check_calls _ _ hn (by assumption)).mono ?_;rintro e w1 ⟨rfl,hb⟩;replace B0:=Lib.hid (B0.out.trans (hb.mono B0.out.size));replace K:=Lib.hid (K.out.below hb);have i1:=K.out.cell 1;have i2:=K.out.cell 2;have i3:=K.out.cell 3;have i4:=K.out.cell 4;have i5:=K.out.cell 5;have i6:=K.out.cell 6;have i7:=K.out.cell 7;have i8:=K.out.cell 8;have i10:=K.out.cell 10;simp only[List.getElem?_toArray,List.getElem?_cons_zero,List.getElem?_cons_succ]at i1 i2 i3 i4 i5 i6 i7 i8 i10;clear hb)|(go_at_call 24;refine(tgood_calls ⟨y,mo,d,hh,mi,s⟩ _).mono ?_;rintro e w2 ⟨rfl,hb⟩;replace B0:=Lib.hid (B0.out.trans (hb.mono B0.out.size));replace K:=Lib.hid (K.out.below hb);have j7:=K.out.cell 7;have j8:=K.out.cell 8;have j10:=K.out.cell 10;simp only[List.getElem?_toArray,List.getElem?_cons_zero,List.getElem?_cons_succ]at j7 j8 j10;clear hb))
 go_ret
 exact⟨rfl,B0.out⟩
set_option maxHeartbeats 1000000 in
set_option maxRecDepth 100000 in
theorem hgood_f1 (name:ByteArray) (y mo d hh mi s packed size sum pos:Int) (w:World) (hn:name.size≤140737488351232) (hT:Tabs w) (q0:checkB name=true) (q1:tgood ⟨y,mo,d,hh,mi,s⟩=false) :
  Calls Tryz.prog 61 #[.agg #[.string name,.int .i64 y,.int .i64 mo,.int .i64 d,.int .i64 hh,.int .i64 mi,.int .i64 s,.int .u64 packed,.int .u64 size,.int .u32 sum,.int .u64 pos,.bool false]] w fun e w'=>e= .returned (.bool false)∧Below w.heap.size w w':=by
 have B0:=Lib.hid ((Below.refl w.heap.size w).alloc (Nat.le_refl _) (.cells #[.string name,.int .i64 y,.int .i64 mo,.int .i64 d,.int .i64 hh,.int .i64 mi,.int .i64 s,.int .u64 packed,.int .u64 size,.int .u32 sum,.int .u64 pos,.bool false] 121))
 have hT0:Tabs (w.alloc (.cells #[.string name,.int .i64 y,.int .i64 mo,.int .i64 d,.int .i64 hh,.int .i64 mi,.int .i64 s,.int .u64 packed,.int .u64 size,.int .u32 sum,.int .u64 pos,.bool false] 121)):=hT.below B0.out
 have K:=Lib.hid (Blk.new w #[.string name,.int .i64 y,.int .i64 mo,.int .i64 d,.int .i64 hh,.int .i64 mi,.int .i64 s,.int .u64 packed,.int .u64 size,.int .u32 sum,.int .u64 pos,.bool false] 121)
 have v0:errN true=0:=rfl
 have v1:errN false=9:=rfl
 go_enter Tryz.func61,Tryz.ntmps61
 go_wp2_with (first|(go_at_call 39;refine(check_calls _ _ hn (by assumption)).mono ?_;rintro e w1 ⟨rfl,hb⟩;replace B0:=Lib.hid (B0.out.trans (hb.mono B0.out.size));replace K:=Lib.hid (K.out.below hb);have i1:=K.out.cell 1;have i2:=K.out.cell 2;have i3:=K.out.cell 3;have i4:=K.out.cell 4;have i5:=K.out.cell 5;have i6:=K.out.cell 6;have i7:=K.out.cell 7;have i8:=K.out.cell 8;have i10:=K.out.cell 10;simp only[List.getElem?_toArray,List.getElem?_cons_zero,List.getElem?_cons_succ]at i1 i2 i3 i4 i5 i6 i7 i8 i10;clear hb)|(go_at_call 24;refine(tgood_calls ⟨y,mo,d,hh,mi,s⟩ _).mono ?_;rintro e w2 ⟨rfl,hb⟩;replace B0:=Lib.hid (B0.out.trans (hb.mono B0.out.size));replace K:=Lib.hid (K.out.below hb);have j7:=K.out.cell 7;have j8:=K.out.cell 8;have j10:=K.out.cell 10;simp only[List.getElem?_toArray,List.getElem?_cons_zero,List.getElem?_cons_succ]at j7 j8 j10;clear hb))
 go_ret
 exact⟨rfl,B0.out⟩
set_option maxHeartbeats 1000000 in
set_option maxRecDepth 100000 in
theorem hgood_f2 (name:ByteArray) (y mo d hh mi s packed size sum pos:Int) (w:World) (hn:name.size≤140737488351232) (hT:Tabs w) (q0:checkB name=true) (q1:tgood ⟨y,mo,d,hh,mi,s⟩=true) (q2:decide (packed<4611686018427387904)=false) :
  Calls Tryz.prog 61 #[.agg #[.string name,.int .i64 y,.int .i64 mo,.int .i64 d,.int .i64 hh,.int .i64 mi,.int .i64 s,.int .u64 packed,.int .u64 size,.int .u32 sum,.int .u64 pos,.bool false]] w fun e w'=>e= .returned (.bool false)∧Below w.heap.size w w':=by
 have B0:=Lib.hid ((Below.refl w.heap.size w).alloc (Nat.le_refl _) (.cells #[.string name,.int .i64 y,.int .i64 mo,.int .i64 d,.int .i64 hh,.int .i64 mi,.int .i64 s,.int .u64 packed,.int .u64 size,.int .u32 sum,.int .u64 pos,.bool false] 121))
 have hT0:Tabs (w.alloc (.cells #[.string name,.int .i64 y,.int .i64 mo,.int .i64 d,.int .i64 hh,.int .i64 mi,.int .i64 s,.int .u64 packed,.int .u64 size,.int .u32 sum,.int .u64 pos,.bool false] 121)):=hT.below B0.out
 have K:=Lib.hid (Blk.new w #[.string name,.int .i64 y,.int .i64 mo,.int .i64 d,.int .i64 hh,.int .i64 mi,.int .i64 s,.int .u64 packed,.int .u64 size,.int .u32 sum,.int .u64 pos,.bool false] 121)
 have v0:errN true=0:=rfl
 have v1:errN false=9:=rfl
 go_enter Tryz.func61,Tryz.ntmps61
 go_wp2_with (first|(go_at_call 39;refine(check_calls _ _ hn (by assumption)).mono ?_;rintro e w1 ⟨rfl,hb⟩;replace B0:=Lib.hid (B0.out.trans (hb.mono B0.out.size));replace K:=Lib.hid (K.out.below hb);have i1:=K.out.cell 1;have i2:=K.out.cell 2;have i3:=K.out.cell 3;have i4:=K.out.cell 4;have i5:=K.out.cell 5;have i6:=K.out.cell 6;have i7:=K.out.cell 7;have i8:=K.out.cell 8;have i10:=K.out.cell 10;simp only[List.getElem?_toArray,List.getElem?_cons_zero,List.getElem?_cons_succ]at i1 i2 i3 i4 i5 i6 i7 i8 i10;clear hb)|(go_at_call 24;refine(tgood_calls ⟨y,mo,d,hh,mi,s⟩ _).mono ?_;rintro e w2 ⟨rfl,hb⟩;replace B0:=Lib.hid (B0.out.trans (hb.mono B0.out.size));replace K:=Lib.hid (K.out.below hb);have j7:=K.out.cell 7;have j8:=K.out.cell 8;have j10:=K.out.cell 10;simp only[List.getElem?_toArray,List.getElem?_cons_zero,List.getElem?_cons_succ]at j7 j8 j10;clear hb))
 go_ret
 exact⟨rfl,B0.out⟩
set_option maxHeartbeats 1000000 in
set_option maxRecDepth 100000 in
theorem hgood_f3 (name:ByteArray) (y mo d hh mi s packed size sum pos:Int) (w:World) (hn:name.size≤140737488351232) (hT:Tabs w) (q0:checkB name=true) (q1:tgood ⟨y,mo,d,hh,mi,s⟩=true) (q2:decide (packed<4611686018427387904)=true) (q3:decide (size<4611686018427387904)=false) :
  Calls Tryz.prog 61 #[.agg #[.string name,.int .i64 y,.int .i64 mo,.int .i64 d,.int .i64 hh,.int .i64 mi,.int .i64 s,.int .u64 packed,.int .u64 size,.int .u32 sum,.int .u64 pos,.bool false]] w fun e w'=>e= .returned (.bool false)∧Below w.heap.size w w':=by
 have B0:=Lib.hid ((Below.refl w.heap.size w).alloc (Nat.le_refl _) (.cells #[.string name,.int .i64 y,.int .i64 mo,.int .i64 d,.int .i64 hh,.int .i64 mi,.int .i64 s,.int .u64 packed,.int .u64 size,.int .u32 sum,.int .u64 pos,.bool false] 121))
 have hT0:Tabs (w.alloc (.cells #[.string name,.int .i64 y,.int .i64 mo,.int .i64 d,.int .i64 hh,.int .i64 mi,.int .i64 s,.int .u64 packed,.int .u64 size,.int .u32 sum,.int .u64 pos,.bool false] 121)):=hT.below B0.out
 have K:=Lib.hid (Blk.new w #[.string name,.int .i64 y,.int .i64 mo,.int .i64 d,.int .i64 hh,.int .i64 mi,.int .i64 s,.int .u64 packed,.int .u64 size,.int .u32 sum,.int .u64 pos,.bool false] 121)
 have v0:errN true=0:=rfl
 have v1:errN false=9:=rfl
 go_enter Tryz.func61,Tryz.ntmps61
 go_wp2_with (first|(go_at_call 39;refine(check_calls _ _ hn (by assumption)).mono ?_;rintro e w1 ⟨rfl,hb⟩;replace B0:=Lib.hid (B0.out.trans (hb.mono B0.out.size));replace K:=Lib.hid (K.out.below hb);have i1:=K.out.cell 1;have i2:=K.out.cell 2;have i3:=K.out.cell 3;have i4:=K.out.cell 4;have i5:=K.out.cell 5;have i6:=K.out.cell 6;have i7:=K.out.cell 7;have i8:=K.out.cell 8;have i10:=K.out.cell 10;simp only[List.getElem?_toArray,List.getElem?_cons_zero,List.getElem?_cons_succ]at i1 i2 i3 i4 i5 i6 i7 i8 i10;clear hb)|(go_at_call 24;refine(tgood_calls ⟨y,mo,d,hh,mi,s⟩ _).mono ?_;rintro e w2 ⟨rfl,hb⟩;replace B0:=Lib.hid (B0.out.trans (hb.mono B0.out.size));replace K:=Lib.hid (K.out.below hb);have j7:=K.out.cell 7;have j8:=K.out.cell 8;have j10:=K.out.cell 10;simp only[List.getElem?_toArray,List.getElem?_cons_zero,List.getElem?_cons_succ]at j7 j8 j10;clear hb))
 go_ret
 exact⟨rfl,B0.out⟩
set_option maxHeartbeats 1000000 in
set_option maxRecDepth 100000 in
theorem hgood_f4 (name:ByteArray) (y mo d hh mi s packed size sum pos:Int) (w:World) (hn:name.size≤140737488351232) (hT:Tabs w) (q0:checkB name=true) (q1:tgood ⟨y,mo,d,hh,mi,s⟩=true) (q2:decide (packed<4611686018427387904)=true) (q3:decide (size<4611686018427387904)=true) (q4:decide (pos<4611686018427387904)=false) :
  Calls Tryz.prog 61 #[.agg #[.string name,.int .i64 y,.int .i64 mo,.int .i64 d,.int .i64 hh,.int .i64 mi,.int .i64 s,.int .u64 packed,.int .u64 size,.int .u32 sum,.int .u64 pos,.bool false]] w fun e w'=>e= .returned (.bool false)∧Below w.heap.size w w':=by
 have B0:=Lib.hid ((Below.refl w.heap.size w).alloc (Nat.le_refl _) (.cells #[.string name,.int .i64 y,.int .i64 mo,.int .i64 d,.int .i64 hh,.int .i64 mi,.int .i64 s,.int .u64 packed,.int .u64 size,.int .u32 sum,.int .u64 pos,.bool false] 121))
 have hT0:Tabs (w.alloc (.cells #[.string name,.int .i64 y,.int .i64 mo,.int .i64 d,.int .i64 hh,.int .i64 mi,.int .i64 s,.int .u64 packed,.int .u64 size,.int .u32 sum,.int .u64 pos,.bool false] 121)):=hT.below B0.out
 have K:=Lib.hid (Blk.new w #[.string name,.int .i64 y,.int .i64 mo,.int .i64 d,.int .i64 hh,.int .i64 mi,.int .i64 s,.int .u64 packed,.int .u64 size,.int .u32 sum,.int .u64 pos,.bool false] 121)
 have v0:errN true=0:=rfl
 have v1:errN false=9:=rfl
 go_enter Tryz.func61,Tryz.ntmps61
 go_wp2_with (first|(go_at_call 39;refine(check_calls _ _ hn (by assumption)).mono ?_;rintro e w1 ⟨rfl,hb⟩;replace B0:=Lib.hid (B0.out.trans (hb.mono B0.out.size));replace K:=Lib.hid (K.out.below hb);have i1:=K.out.cell 1;have i2:=K.out.cell 2;have i3:=K.out.cell 3;have i4:=K.out.cell 4;have i5:=K.out.cell 5;have i6:=K.out.cell 6;have i7:=K.out.cell 7;have i8:=K.out.cell 8;have i10:=K.out.cell 10;simp only[List.getElem?_toArray,List.getElem?_cons_zero,List.getElem?_cons_succ]at i1 i2 i3 i4 i5 i6 i7 i8 i10;clear hb)|(go_at_call 24;refine(tgood_calls ⟨y,mo,d,hh,mi,s⟩ _).mono ?_;rintro e w2 ⟨rfl,hb⟩;replace B0:=Lib.hid (B0.out.trans (hb.mono B0.out.size));replace K:=Lib.hid (K.out.below hb);have j7:=K.out.cell 7;have j8:=K.out.cell 8;have j10:=K.out.cell 10;simp only[List.getElem?_toArray,List.getElem?_cons_zero,List.getElem?_cons_succ]at j7 j8 j10;clear hb))
 go_ret
 exact⟨rfl,B0.out⟩
set_option maxHeartbeats 1000000 in
set_option maxRecDepth 100000 in
theorem hgood_f5 (name:ByteArray) (y mo d hh mi s packed size sum pos:Int) (w:World) (hn:name.size≤140737488351232) (hT:Tabs w) (q0:checkB name=true) (q1:tgood ⟨y,mo,d,hh,mi,s⟩=true) (q2:decide (packed<4611686018427387904)=true) (q3:decide (size<4611686018427387904)=true) (q4:decide (pos<4611686018427387904)=true) :
  Calls Tryz.prog 61 #[.agg #[.string name,.int .i64 y,.int .i64 mo,.int .i64 d,.int .i64 hh,.int .i64 mi,.int .i64 s,.int .u64 packed,.int .u64 size,.int .u32 sum,.int .u64 pos,.bool false]] w fun e w'=>e= .returned (.bool true)∧Below w.heap.size w w':=by
 have B0:=Lib.hid ((Below.refl w.heap.size w).alloc (Nat.le_refl _) (.cells #[.string name,.int .i64 y,.int .i64 mo,.int .i64 d,.int .i64 hh,.int .i64 mi,.int .i64 s,.int .u64 packed,.int .u64 size,.int .u32 sum,.int .u64 pos,.bool false] 121))
 have hT0:Tabs (w.alloc (.cells #[.string name,.int .i64 y,.int .i64 mo,.int .i64 d,.int .i64 hh,.int .i64 mi,.int .i64 s,.int .u64 packed,.int .u64 size,.int .u32 sum,.int .u64 pos,.bool false] 121)):=hT.below B0.out
 have K:=Lib.hid (Blk.new w #[.string name,.int .i64 y,.int .i64 mo,.int .i64 d,.int .i64 hh,.int .i64 mi,.int .i64 s,.int .u64 packed,.int .u64 size,.int .u32 sum,.int .u64 pos,.bool false] 121)
 have v0:errN true=0:=rfl
 have v1:errN false=9:=rfl
 go_enter Tryz.func61,Tryz.ntmps61
 go_wp2_with (first|(go_at_call 39;refine(check_calls _ _ hn (by assumption)).mono ?_;rintro e w1 ⟨rfl,hb⟩;replace B0:=Lib.hid (B0.out.trans (hb.mono B0.out.size));replace K:=Lib.hid (K.out.below hb);have i1:=K.out.cell 1;have i2:=K.out.cell 2;have i3:=K.out.cell 3;have i4:=K.out.cell 4;have i5:=K.out.cell 5;have i6:=K.out.cell 6;have i7:=K.out.cell 7;have i8:=K.out.cell 8;have i10:=K.out.cell 10;simp only[List.getElem?_toArray,List.getElem?_cons_zero,List.getElem?_cons_succ]at i1 i2 i3 i4 i5 i6 i7 i8 i10;clear hb)|(go_at_call 24;refine(tgood_calls ⟨y,mo,d,hh,mi,s⟩ _).mono ?_;rintro e w2 ⟨rfl,hb⟩;replace B0:=Lib.hid (B0.out.trans (hb.mono B0.out.size));replace K:=Lib.hid (K.out.below hb);have j7:=K.out.cell 7;have j8:=K.out.cell 8;have j10:=K.out.cell 10;simp only[List.getElem?_toArray,List.getElem?_cons_zero,List.getElem?_cons_succ]at j7 j8 j10;clear hb))
 go_ret
 exact⟨rfl,B0.out⟩
set_option maxHeartbeats 1000000 in
set_option maxRecDepth 100000 in
theorem hgood_t0 (name:ByteArray) (y mo d hh mi s packed size sum pos:Int) (w:World) (hn:name.size≤140737488351232) (hT:Tabs w) (z1:(packed != 0)=false) (z2:(size != 0)=false) (q0:checkB name=false) :
  Calls Tryz.prog 61 #[.agg #[.string name,.int .i64 y,.int .i64 mo,.int .i64 d,.int .i64 hh,.int .i64 mi,.int .i64 s,.int .u64 packed,.int .u64 size,.int .u32 sum,.int .u64 pos,.bool true]] w fun e w'=>e= .returned (.bool false)∧Below w.heap.size w w':=by
 have B0:=Lib.hid ((Below.refl w.heap.size w).alloc (Nat.le_refl _) (.cells #[.string name,.int .i64 y,.int .i64 mo,.int .i64 d,.int .i64 hh,.int .i64 mi,.int .i64 s,.int .u64 packed,.int .u64 size,.int .u32 sum,.int .u64 pos,.bool true] 121))
 have hT0:Tabs (w.alloc (.cells #[.string name,.int .i64 y,.int .i64 mo,.int .i64 d,.int .i64 hh,.int .i64 mi,.int .i64 s,.int .u64 packed,.int .u64 size,.int .u32 sum,.int .u64 pos,.bool true] 121)):=hT.below B0.out
 have K:=Lib.hid (Blk.new w #[.string name,.int .i64 y,.int .i64 mo,.int .i64 d,.int .i64 hh,.int .i64 mi,.int .i64 s,.int .u64 packed,.int .u64 size,.int .u32 sum,.int .u64 pos,.bool true] 121)
 have v0:errN true=0:=rfl
 have v1:errN false=9:=rfl
 go_enter Tryz.func61,Tryz.ntmps61
 go_wp2_with (first|(go_at_call 39;refine(check_calls _ _ hn (by assumption)).mono ?_;rintro e w1 ⟨rfl,hb⟩;replace B0:=Lib.hid (B0.out.trans (hb.mono B0.out.size));replace K:=Lib.hid (K.out.below hb);have i1:=K.out.cell 1;have i2:=K.out.cell 2;have i3:=K.out.cell 3;have i4:=K.out.cell 4;have i5:=K.out.cell 5;have i6:=K.out.cell 6;have i7:=K.out.cell 7;have i8:=K.out.cell 8;have i10:=K.out.cell 10;simp only[List.getElem?_toArray,List.getElem?_cons_zero,List.getElem?_cons_succ]at i1 i2 i3 i4 i5 i6 i7 i8 i10;clear hb)|(go_at_call 24;refine(tgood_calls ⟨y,mo,d,hh,mi,s⟩ _).mono ?_;rintro e w2 ⟨rfl,hb⟩;replace B0:=Lib.hid (B0.out.trans (hb.mono B0.out.size));replace K:=Lib.hid (K.out.below hb);have j7:=K.out.cell 7;have j8:=K.out.cell 8;have j10:=K.out.cell 10;simp only[List.getElem?_toArray,List.getElem?_cons_zero,List.getElem?_cons_succ]at j7 j8 j10;clear hb))
 go_ret
 exact⟨rfl,B0.out⟩
set_option maxHeartbeats 1000000 in
set_option maxRecDepth 100000 in
theorem hgood_t1 (name:ByteArray) (y mo d hh mi s packed size sum pos:Int) (w:World) (hn:name.size≤140737488351232) (hT:Tabs w) (z1:(packed != 0)=false) (z2:(size != 0)=false) (q0:checkB name=true) (q1:tgood ⟨y,mo,d,hh,mi,s⟩=false) :
  Calls Tryz.prog 61 #[.agg #[.string name,.int .i64 y,.int .i64 mo,.int .i64 d,.int .i64 hh,.int .i64 mi,.int .i64 s,.int .u64 packed,.int .u64 size,.int .u32 sum,.int .u64 pos,.bool true]] w fun e w'=>e= .returned (.bool false)∧Below w.heap.size w w':=by
 have B0:=Lib.hid ((Below.refl w.heap.size w).alloc (Nat.le_refl _) (.cells #[.string name,.int .i64 y,.int .i64 mo,.int .i64 d,.int .i64 hh,.int .i64 mi,.int .i64 s,.int .u64 packed,.int .u64 size,.int .u32 sum,.int .u64 pos,.bool true] 121))
 have hT0:Tabs (w.alloc (.cells #[.string name,.int .i64 y,.int .i64 mo,.int .i64 d,.int .i64 hh,.int .i64 mi,.int .i64 s,.int .u64 packed,.int .u64 size,.int .u32 sum,.int .u64 pos,.bool true] 121)):=hT.below B0.out
 have K:=Lib.hid (Blk.new w #[.string name,.int .i64 y,.int .i64 mo,.int .i64 d,.int .i64 hh,.int .i64 mi,.int .i64 s,.int .u64 packed,.int .u64 size,.int .u32 sum,.int .u64 pos,.bool true] 121)
 have v0:errN true=0:=rfl
 have v1:errN false=9:=rfl
 go_enter Tryz.func61,Tryz.ntmps61
 go_wp2_with (first|(go_at_call 39;refine(check_calls _ _ hn (by assumption)).mono ?_;rintro e w1 ⟨rfl,hb⟩;replace B0:=Lib.hid (B0.out.trans (hb.mono B0.out.size));replace K:=Lib.hid (K.out.below hb);have i1:=K.out.cell 1;have i2:=K.out.cell 2;have i3:=K.out.cell 3;have i4:=K.out.cell 4;have i5:=K.out.cell 5;have i6:=K.out.cell 6;have i7:=K.out.cell 7;have i8:=K.out.cell 8;have i10:=K.out.cell 10;simp only[List.getElem?_toArray,List.getElem?_cons_zero,List.getElem?_cons_succ]at i1 i2 i3 i4 i5 i6 i7 i8 i10;clear hb)|(go_at_call 24;refine(tgood_calls ⟨y,mo,d,hh,mi,s⟩ _).mono ?_;rintro e w2 ⟨rfl,hb⟩;replace B0:=Lib.hid (B0.out.trans (hb.mono B0.out.size));replace K:=Lib.hid (K.out.below hb);have j7:=K.out.cell 7;have j8:=K.out.cell 8;have j10:=K.out.cell 10;simp only[List.getElem?_toArray,List.getElem?_cons_zero,List.getElem?_cons_succ]at j7 j8 j10;clear hb))
 go_ret
 exact⟨rfl,B0.out⟩
set_option maxHeartbeats 1000000 in
set_option maxRecDepth 100000 in
theorem hgood_t2 (name:ByteArray) (y mo d hh mi s packed size sum pos:Int) (w:World) (hn:name.size≤140737488351232) (hT:Tabs w) (z1:(packed != 0)=false) (z2:(size != 0)=false) (q0:checkB name=true) (q1:tgood ⟨y,mo,d,hh,mi,s⟩=true) (q2:decide (packed<4611686018427387904)=false) :
  Calls Tryz.prog 61 #[.agg #[.string name,.int .i64 y,.int .i64 mo,.int .i64 d,.int .i64 hh,.int .i64 mi,.int .i64 s,.int .u64 packed,.int .u64 size,.int .u32 sum,.int .u64 pos,.bool true]] w fun e w'=>e= .returned (.bool false)∧Below w.heap.size w w':=by
 have B0:=Lib.hid ((Below.refl w.heap.size w).alloc (Nat.le_refl _) (.cells #[.string name,.int .i64 y,.int .i64 mo,.int .i64 d,.int .i64 hh,.int .i64 mi,.int .i64 s,.int .u64 packed,.int .u64 size,.int .u32 sum,.int .u64 pos,.bool true] 121))
 have hT0:Tabs (w.alloc (.cells #[.string name,.int .i64 y,.int .i64 mo,.int .i64 d,.int .i64 hh,.int .i64 mi,.int .i64 s,.int .u64 packed,.int .u64 size,.int .u32 sum,.int .u64 pos,.bool true] 121)):=hT.below B0.out
 have K:=Lib.hid (Blk.new w #[.string name,.int .i64 y,.int .i64 mo,.int .i64 d,.int .i64 hh,.int .i64 mi,.int .i64 s,.int .u64 packed,.int .u64 size,.int .u32 sum,.int .u64 pos,.bool true] 121)
 have v0:errN true=0:=rfl
 have v1:errN false=9:=rfl
 go_enter Tryz.func61,Tryz.ntmps61
 go_wp2_with (first|(go_at_call 39;refine(check_calls _ _ hn (by assumption)).mono ?_;rintro e w1 ⟨rfl,hb⟩;replace B0:=Lib.hid (B0.out.trans (hb.mono B0.out.size));replace K:=Lib.hid (K.out.below hb);have i1:=K.out.cell 1;have i2:=K.out.cell 2;have i3:=K.out.cell 3;have i4:=K.out.cell 4;have i5:=K.out.cell 5;have i6:=K.out.cell 6;have i7:=K.out.cell 7;have i8:=K.out.cell 8;have i10:=K.out.cell 10;simp only[List.getElem?_toArray,List.getElem?_cons_zero,List.getElem?_cons_succ]at i1 i2 i3 i4 i5 i6 i7 i8 i10;clear hb)|(go_at_call 24;refine(tgood_calls ⟨y,mo,d,hh,mi,s⟩ _).mono ?_;rintro e w2 ⟨rfl,hb⟩;replace B0:=Lib.hid (B0.out.trans (hb.mono B0.out.size));replace K:=Lib.hid (K.out.below hb);have j7:=K.out.cell 7;have j8:=K.out.cell 8;have j10:=K.out.cell 10;simp only[List.getElem?_toArray,List.getElem?_cons_zero,List.getElem?_cons_succ]at j7 j8 j10;clear hb))
 go_ret
 exact⟨rfl,B0.out⟩
set_option maxHeartbeats 1000000 in
set_option maxRecDepth 100000 in
theorem hgood_t3 (name:ByteArray) (y mo d hh mi s packed size sum pos:Int) (w:World) (hn:name.size≤140737488351232) (hT:Tabs w) (z1:(packed != 0)=false) (z2:(size != 0)=false) (q0:checkB name=true) (q1:tgood ⟨y,mo,d,hh,mi,s⟩=true) (q2:decide (packed<4611686018427387904)=true) (q3:decide (size<4611686018427387904)=false) :
  Calls Tryz.prog 61 #[.agg #[.string name,.int .i64 y,.int .i64 mo,.int .i64 d,.int .i64 hh,.int .i64 mi,.int .i64 s,.int .u64 packed,.int .u64 size,.int .u32 sum,.int .u64 pos,.bool true]] w fun e w'=>e= .returned (.bool false)∧Below w.heap.size w w':=by
 have B0:=Lib.hid ((Below.refl w.heap.size w).alloc (Nat.le_refl _) (.cells #[.string name,.int .i64 y,.int .i64 mo,.int .i64 d,.int .i64 hh,.int .i64 mi,.int .i64 s,.int .u64 packed,.int .u64 size,.int .u32 sum,.int .u64 pos,.bool true] 121))
 have hT0:Tabs (w.alloc (.cells #[.string name,.int .i64 y,.int .i64 mo,.int .i64 d,.int .i64 hh,.int .i64 mi,.int .i64 s,.int .u64 packed,.int .u64 size,.int .u32 sum,.int .u64 pos,.bool true] 121)):=hT.below B0.out
 have K:=Lib.hid (Blk.new w #[.string name,.int .i64 y,.int .i64 mo,.int .i64 d,.int .i64 hh,.int .i64 mi,.int .i64 s,.int .u64 packed,.int .u64 size,.int .u32 sum,.int .u64 pos,.bool true] 121)
 have v0:errN true=0:=rfl
 have v1:errN false=9:=rfl
 go_enter Tryz.func61,Tryz.ntmps61
 go_wp2_with (first|(go_at_call 39;refine(check_calls _ _ hn (by assumption)).mono ?_;rintro e w1 ⟨rfl,hb⟩;replace B0:=Lib.hid (B0.out.trans (hb.mono B0.out.size));replace K:=Lib.hid (K.out.below hb);have i1:=K.out.cell 1;have i2:=K.out.cell 2;have i3:=K.out.cell 3;have i4:=K.out.cell 4;have i5:=K.out.cell 5;have i6:=K.out.cell 6;have i7:=K.out.cell 7;have i8:=K.out.cell 8;have i10:=K.out.cell 10;simp only[List.getElem?_toArray,List.getElem?_cons_zero,List.getElem?_cons_succ]at i1 i2 i3 i4 i5 i6 i7 i8 i10;clear hb)|(go_at_call 24;refine(tgood_calls ⟨y,mo,d,hh,mi,s⟩ _).mono ?_;rintro e w2 ⟨rfl,hb⟩;replace B0:=Lib.hid (B0.out.trans (hb.mono B0.out.size));replace K:=Lib.hid (K.out.below hb);have j7:=K.out.cell 7;have j8:=K.out.cell 8;have j10:=K.out.cell 10;simp only[List.getElem?_toArray,List.getElem?_cons_zero,List.getElem?_cons_succ]at j7 j8 j10;clear hb))
 go_ret
 exact⟨rfl,B0.out⟩
set_option maxHeartbeats 1000000 in
set_option maxRecDepth 100000 in
theorem hgood_t4 (name:ByteArray) (y mo d hh mi s packed size sum pos:Int) (w:World) (hn:name.size≤140737488351232) (hT:Tabs w) (z1:(packed != 0)=false) (z2:(size != 0)=false) (q0:checkB name=true) (q1:tgood ⟨y,mo,d,hh,mi,s⟩=true) (q2:decide (packed<4611686018427387904)=true) (q3:decide (size<4611686018427387904)=true) (q4:decide (pos<4611686018427387904)=false) :
  Calls Tryz.prog 61 #[.agg #[.string name,.int .i64 y,.int .i64 mo,.int .i64 d,.int .i64 hh,.int .i64 mi,.int .i64 s,.int .u64 packed,.int .u64 size,.int .u32 sum,.int .u64 pos,.bool true]] w fun e w'=>e= .returned (.bool false)∧Below w.heap.size w w':=by
 have B0:=Lib.hid ((Below.refl w.heap.size w).alloc (Nat.le_refl _) (.cells #[.string name,.int .i64 y,.int .i64 mo,.int .i64 d,.int .i64 hh,.int .i64 mi,.int .i64 s,.int .u64 packed,.int .u64 size,.int .u32 sum,.int .u64 pos,.bool true] 121))
 have hT0:Tabs (w.alloc (.cells #[.string name,.int .i64 y,.int .i64 mo,.int .i64 d,.int .i64 hh,.int .i64 mi,.int .i64 s,.int .u64 packed,.int .u64 size,.int .u32 sum,.int .u64 pos,.bool true] 121)):=hT.below B0.out
 have K:=Lib.hid (Blk.new w #[.string name,.int .i64 y,.int .i64 mo,.int .i64 d,.int .i64 hh,.int .i64 mi,.int .i64 s,.int .u64 packed,.int .u64 size,.int .u32 sum,.int .u64 pos,.bool true] 121)
 have v0:errN true=0:=rfl
 have v1:errN false=9:=rfl
 go_enter Tryz.func61,Tryz.ntmps61
 go_wp2_with (first|(go_at_call 39;refine(check_calls _ _ hn (by assumption)).mono ?_;rintro e w1 ⟨rfl,hb⟩;replace B0:=Lib.hid (B0.out.trans (hb.mono B0.out.size));replace K:=Lib.hid (K.out.below hb);have i1:=K.out.cell 1;have i2:=K.out.cell 2;have i3:=K.out.cell 3;have i4:=K.out.cell 4;have i5:=K.out.cell 5;have i6:=K.out.cell 6;have i7:=K.out.cell 7;have i8:=K.out.cell 8;have i10:=K.out.cell 10;simp only[List.getElem?_toArray,List.getElem?_cons_zero,List.getElem?_cons_succ]at i1 i2 i3 i4 i5 i6 i7 i8 i10;clear hb)|(go_at_call 24;refine(tgood_calls ⟨y,mo,d,hh,mi,s⟩ _).mono ?_;rintro e w2 ⟨rfl,hb⟩;replace B0:=Lib.hid (B0.out.trans (hb.mono B0.out.size));replace K:=Lib.hid (K.out.below hb);have j7:=K.out.cell 7;have j8:=K.out.cell 8;have j10:=K.out.cell 10;simp only[List.getElem?_toArray,List.getElem?_cons_zero,List.getElem?_cons_succ]at j7 j8 j10;clear hb))
 go_ret
 exact⟨rfl,B0.out⟩
set_option maxHeartbeats 1000000 in
set_option maxRecDepth 100000 in
theorem hgood_t5 (name:ByteArray) (y mo d hh mi s packed size sum pos:Int) (w:World) (hn:name.size≤140737488351232) (hT:Tabs w) (z1:(packed != 0)=false) (z2:(size != 0)=false) (q0:checkB name=true) (q1:tgood ⟨y,mo,d,hh,mi,s⟩=true) (q2:decide (packed<4611686018427387904)=true) (q3:decide (size<4611686018427387904)=true) (q4:decide (pos<4611686018427387904)=true) :
  Calls Tryz.prog 61 #[.agg #[.string name,.int .i64 y,.int .i64 mo,.int .i64 d,.int .i64 hh,.int .i64 mi,.int .i64 s,.int .u64 packed,.int .u64 size,.int .u32 sum,.int .u64 pos,.bool true]] w fun e w'=>e= .returned (.bool true)∧Below w.heap.size w w':=by
 have B0:=Lib.hid ((Below.refl w.heap.size w).alloc (Nat.le_refl _) (.cells #[.string name,.int .i64 y,.int .i64 mo,.int .i64 d,.int .i64 hh,.int .i64 mi,.int .i64 s,.int .u64 packed,.int .u64 size,.int .u32 sum,.int .u64 pos,.bool true] 121))
 have hT0:Tabs (w.alloc (.cells #[.string name,.int .i64 y,.int .i64 mo,.int .i64 d,.int .i64 hh,.int .i64 mi,.int .i64 s,.int .u64 packed,.int .u64 size,.int .u32 sum,.int .u64 pos,.bool true] 121)):=hT.below B0.out
 have K:=Lib.hid (Blk.new w #[.string name,.int .i64 y,.int .i64 mo,.int .i64 d,.int .i64 hh,.int .i64 mi,.int .i64 s,.int .u64 packed,.int .u64 size,.int .u32 sum,.int .u64 pos,.bool true] 121)
 have v0:errN true=0:=rfl
 have v1:errN false=9:=rfl
 go_enter Tryz.func61,Tryz.ntmps61
 go_wp2_with (first|(go_at_call 39;refine(check_calls _ _ hn (by assumption)).mono ?_;rintro e w1 ⟨rfl,hb⟩;replace B0:=Lib.hid (B0.out.trans (hb.mono B0.out.size));replace K:=Lib.hid (K.out.below hb);have i1:=K.out.cell 1;have i2:=K.out.cell 2;have i3:=K.out.cell 3;have i4:=K.out.cell 4;have i5:=K.out.cell 5;have i6:=K.out.cell 6;have i7:=K.out.cell 7;have i8:=K.out.cell 8;have i10:=K.out.cell 10;simp only[List.getElem?_toArray,List.getElem?_cons_zero,List.getElem?_cons_succ]at i1 i2 i3 i4 i5 i6 i7 i8 i10;clear hb)|(go_at_call 24;refine(tgood_calls ⟨y,mo,d,hh,mi,s⟩ _).mono ?_;rintro e w2 ⟨rfl,hb⟩;replace B0:=Lib.hid (B0.out.trans (hb.mono B0.out.size));replace K:=Lib.hid (K.out.below hb);have j7:=K.out.cell 7;have j8:=K.out.cell 8;have j10:=K.out.cell 10;simp only[List.getElem?_toArray,List.getElem?_cons_zero,List.getElem?_cons_succ]at j7 j8 j10;clear hb))
 go_ret
 exact⟨rfl,B0.out⟩
set_option maxHeartbeats 1000000 in
set_option maxRecDepth 100000 in
theorem hgood_p (name:ByteArray) (y mo d hh mi s packed size sum pos:Int) (w:World) (hn:name.size≤140737488351232) (z1:(packed != 0)=true) :
  Calls Tryz.prog 61 #[.agg #[.string name,.int .i64 y,.int .i64 mo,.int .i64 d,.int .i64 hh,.int .i64 mi,.int .i64 s,.int .u64 packed,.int .u64 size,.int .u32 sum,.int .u64 pos,.bool true]] w fun e w'=>e= .returned (.bool false)∧Below w.heap.size w w':=by
 have B0:=Lib.hid ((Below.refl w.heap.size w).alloc (Nat.le_refl _) (.cells #[.string name,.int .i64 y,.int .i64 mo,.int .i64 d,.int .i64 hh,.int .i64 mi,.int .i64 s,.int .u64 packed,.int .u64 size,.int .u32 sum,.int .u64 pos,.bool true] 121))
 go_enter Tryz.func61,Tryz.ntmps61
 go_wp2
 go_ret
 exact⟨rfl,B0.out⟩
set_option maxHeartbeats 1000000 in
set_option maxRecDepth 100000 in
theorem hgood_s (name:ByteArray) (y mo d hh mi s packed size sum pos:Int) (w:World) (hn:name.size≤140737488351232) (z1:(packed != 0)=false) (z2:(size != 0)=true) :
  Calls Tryz.prog 61 #[.agg #[.string name,.int .i64 y,.int .i64 mo,.int .i64 d,.int .i64 hh,.int .i64 mi,.int .i64 s,.int .u64 packed,.int .u64 size,.int .u32 sum,.int .u64 pos,.bool true]] w fun e w'=>e= .returned (.bool false)∧Below w.heap.size w w':=by
 have B0:=Lib.hid ((Below.refl w.heap.size w).alloc (Nat.le_refl _) (.cells #[.string name,.int .i64 y,.int .i64 mo,.int .i64 d,.int .i64 hh,.int .i64 mi,.int .i64 s,.int .u64 packed,.int .u64 size,.int .u32 sum,.int .u64 pos,.bool true] 121))
 go_enter Tryz.func61,Tryz.ntmps61
 go_wp2
 go_ret
 exact⟨rfl,B0.out⟩
theorem hgood_calls (h:Hd) (w:World) (hn:h.name.size≤140737488351232) (hT:Tabs w):Calls Tryz.prog 61 #[h.val] w fun e w'=>e= .returned (.bool (goodH h))∧Below w.heap.size w w':=by
 obtain⟨name,⟨y,mo,d,hh,mi,s⟩,packed,size,sum,pos,kept⟩:=h
 simp only[Hd.val]
 cases kept with
 | false =>
  cases q0:checkB name with
  | false =>
   have e:goodH ⟨name,⟨y,mo,d,hh,mi,s⟩,packed,size,sum,pos,false⟩=false:=by simp only[goodH,q0,Bool.and_false,Bool.false_and]
   rw[e]
   exact hgood_f0 name y mo d hh mi s packed size sum pos w hn hT q0
  | true =>
   cases q1:tgood ⟨y,mo,d,hh,mi,s⟩ with
   | false =>
    have e:goodH ⟨name,⟨y,mo,d,hh,mi,s⟩,packed,size,sum,pos,false⟩=false:=by simp only[goodH,q1,Bool.and_false,Bool.false_and]
    rw[e]
    exact hgood_f1 name y mo d hh mi s packed size sum pos w hn hT q0 q1
   | true =>
    cases q2:decide (packed<4611686018427387904) with
    | false =>
     have e:goodH ⟨name,⟨y,mo,d,hh,mi,s⟩,packed,size,sum,pos,false⟩=false:=by simp only[goodH,q2,Bool.and_false,Bool.false_and]
     rw[e]
     exact hgood_f2 name y mo d hh mi s packed size sum pos w hn hT q0 q1 q2
    | true =>
     cases q3:decide (size<4611686018427387904) with
     | false =>
      have e:goodH ⟨name,⟨y,mo,d,hh,mi,s⟩,packed,size,sum,pos,false⟩=false:=by simp only[goodH,q3,Bool.and_false,Bool.false_and]
      rw[e]
      exact hgood_f3 name y mo d hh mi s packed size sum pos w hn hT q0 q1 q2 q3
     | true =>
      cases q4:decide (pos<4611686018427387904) with
      | false =>
       have e:goodH ⟨name,⟨y,mo,d,hh,mi,s⟩,packed,size,sum,pos,false⟩=false:=by simp only[goodH,q4,Bool.and_false,Bool.false_and]
       rw[e]
       exact hgood_f4 name y mo d hh mi s packed size sum pos w hn hT q0 q1 q2 q3 q4
      | true =>
       have e:goodH ⟨name,⟨y,mo,d,hh,mi,s⟩,packed,size,sum,pos,false⟩=true:=by simp only[goodH,q0,q1,q2,q3,q4,Bool.and_true,Bool.true_and,Bool.not_false,Bool.not_true,Bool.true_or,Bool.false_or]
       rw[e]
       exact hgood_f5 name y mo d hh mi s packed size sum pos w hn hT q0 q1 q2 q3 q4
 | true =>
  by_cases p0:packed=0
  ·have z1:(packed != 0)=false:=by rw[p0];rfl
   have y1:decide (packed=0)=true:=decide_eq_true p0
   by_cases s0:size=0
   ·have z2:(size != 0)=false:=by rw[s0];rfl
    have y2:decide (size=0)=true:=decide_eq_true s0
    cases q0:checkB name with
    | false =>
     have e:goodH ⟨name,⟨y,mo,d,hh,mi,s⟩,packed,size,sum,pos,true⟩=false:=by simp only[goodH,q0,Bool.and_false,Bool.false_and]
     rw[e]
     exact hgood_t0 name y mo d hh mi s packed size sum pos w hn hT z1 z2 q0
    | true =>
     cases q1:tgood ⟨y,mo,d,hh,mi,s⟩ with
     | false =>
      have e:goodH ⟨name,⟨y,mo,d,hh,mi,s⟩,packed,size,sum,pos,true⟩=false:=by simp only[goodH,q1,Bool.and_false,Bool.false_and]
      rw[e]
      exact hgood_t1 name y mo d hh mi s packed size sum pos w hn hT z1 z2 q0 q1
     | true =>
      cases q2:decide (packed<4611686018427387904) with
      | false =>
       have e:goodH ⟨name,⟨y,mo,d,hh,mi,s⟩,packed,size,sum,pos,true⟩=false:=by simp only[goodH,q2,Bool.and_false,Bool.false_and]
       rw[e]
       exact hgood_t2 name y mo d hh mi s packed size sum pos w hn hT z1 z2 q0 q1 q2
      | true =>
       cases q3:decide (size<4611686018427387904) with
       | false =>
        have e:goodH ⟨name,⟨y,mo,d,hh,mi,s⟩,packed,size,sum,pos,true⟩=false:=by simp only[goodH,q3,Bool.and_false,Bool.false_and]
        rw[e]
        exact hgood_t3 name y mo d hh mi s packed size sum pos w hn hT z1 z2 q0 q1 q2 q3
       | true =>
        cases q4:decide (pos<4611686018427387904) with
        | false =>
         have e:goodH ⟨name,⟨y,mo,d,hh,mi,s⟩,packed,size,sum,pos,true⟩=false:=by simp only[goodH,q4,Bool.and_false,Bool.false_and]
         rw[e]
         exact hgood_t4 name y mo d hh mi s packed size sum pos w hn hT z1 z2 q0 q1 q2 q3 q4
        | true =>
         have e:goodH ⟨name,⟨y,mo,d,hh,mi,s⟩,packed,size,sum,pos,true⟩=true:=by simp only[goodH,q0,q1,q2,q3,q4,y1,y2,Bool.and_true,Bool.true_and,Bool.not_false,Bool.not_true,Bool.true_or,Bool.false_or]
         rw[e]
         exact hgood_t5 name y mo d hh mi s packed size sum pos w hn hT z1 z2 q0 q1 q2 q3 q4
   ·have z2:(size != 0)=true:=by rw[bne_iff_ne];exact s0
    have y2:decide (size=0)=false:=decide_eq_false s0
    have e:goodH ⟨name,⟨y,mo,d,hh,mi,s⟩,packed,size,sum,pos,true⟩=false:=by simp only[goodH,y2,Bool.and_false,Bool.not_true,Bool.or_false]
    rw[e]
    exact hgood_s name y mo d hh mi s packed size sum pos w hn z1 z2
  ·have z1:(packed != 0)=true:=by rw[bne_iff_ne];exact p0
   have y1:decide (packed=0)=false:=decide_eq_false p0
   have e:goodH ⟨name,⟨y,mo,d,hh,mi,s⟩,packed,size,sum,pos,true⟩=false:=by simp only[goodH,y1,Bool.and_false,Bool.false_and,Bool.not_true,Bool.or_false]
   rw[e]
   exact hgood_p name y mo d hh mi s packed size sum pos w hn z1
end Go.Proofs.YtgiogemkomgkhaaGreatDoor.Zp
