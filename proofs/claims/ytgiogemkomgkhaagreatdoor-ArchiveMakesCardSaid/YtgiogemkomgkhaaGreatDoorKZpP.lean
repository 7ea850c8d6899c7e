/-
  Numbers' bytes: the two Gets.
-/
import Derived.ProofKit
import Derived.Test.YtgiogemkomgkhaaGreatDoorProg
import Derived.WalkKit
import Derived.WalkLawsBesides
import Derived.WalkSpells
import Derived.Below
import Derived.Lib.Hide
import Derived.Laws.BytesArg
import Derived.Laws.MakeOwn
import Derived.Laws.Rows
import Derived.RangeFuncRecord
set_option linter.unusedVariables false
set_option linter.unusedSimpArgs false
namespace Go.Proofs.YtgiogemkomgkhaaGreatDoor.Zp
def putB (n:Nat):Nat→List Nat
 | 0=> []
 | k+1=>n % 256::putB (n/256) k
def getB:List Nat→Nat
 | []=>0
 | b::r=>b+256*getB r
theorem putB_len:∀ (k n:Nat),(putB n k).length=k
 | 0,_=>rfl
 | k+1,n=>by rw[putB,List.length_cons,putB_len k]
theorem putB_at:∀ (k n i:Nat) (h:i<(putB n k).length),(putB n k)[i]=n/256 ^ i % 256
 | 0,_,i,h=>by simp[putB]at h
 | k+1,n,0,_=>by simp[putB]
 | k+1,n,i+1,h=>by
  have h1:=putB_at k (n/256) i (by simpa[putB] using h)
  simp only[putB,List.getElem_cons_succ]
  rw[h1,Nat.div_div_eq_div_mul,Nat.pow_succ,Nat.mul_comm 256]
end Go.Proofs.YtgiogemkomgkhaaGreatDoor.Zp
namespace Go.Proofs.YtgiogemkomgkhaaGreatDoor.Zp
open Go.RowKit
def putL (n k:Nat):List Int:=(putB n k).map Int.ofNat
def putS (n k:Nat):ByteArray:=strOfNums (putL n k)
theorem putL_len (n k:Nat):(putL n k).length=k:=by rw[putL,List.length_map,putB_len]
theorem putS_size (n k:Nat):(putS n k).size=k:=by rw[putS,strOfNums_size,putL_len]
theorem putL_at (n k i:Nat) (h:i<k):(putL n k).getD i 0=((n/256 ^ i % 256:Nat):Int):=by
 have h1:i<(putL n k).length:=by rw[putL_len];exact h
 rw[List.getD_eq_getElem?_getD,List.getElem?_eq_getElem h1]
 simp only[putL,Option.getD_some,List.getElem_map]
 rw[putB_at]
 rfl
theorem Tryz.infoByteZ:(Tryz.prog.info? 5).map (fun i=>(i.zero,i.size,i.bytes))=some (some (.int .u8 0),1,1):=by kernel_rfl
set_option maxHeartbeats 1000000 in
set_option maxRecDepth 100000 in
theorem put_calls (n N:Nat) (w:World) (hn:n<18446744073709551616) (h1:1≤N) (h8:N≤8) :
  Calls Tryz.prog 80 #[.int .u64 n,.int .i64 N] w fun e w'=>e= .returned (.string (putS n N))∧Below w.heap.size w w':=by
 obtain⟨i0,hi,hz0,hz1,hz2⟩:=info_parts Tryz.infoByteZ
 have hmk:∀ W:World,(Instr.makeSlice 101 (.int .i64 N) (.int .i64 N)).run Tryz.prog W= .ok (.slice (some ⟨W.heap.size,0,none⟩) N N) (W.alloc (.cells (madeCells #[.int .u8 0] N) 5)):=fun W=>by
  have:=run_make (P:=Tryz.prog) W 101 5 i0 (.int .u8 0) Tryz.underlying101 hi hz0 .i64 .i64 N N (by omega) (by omega) (by rw[hz2];omega) (by omega)
  simpa[hz1,Value.cells] using this
 have q1:decide ((N:Int)<1)=false:=decide_eq_false (by omega)
 have q2:decide (8<(N:Int))=false:=decide_eq_false (by omega)
 have B0:=Lib.hid (Below.refl w.heap.size w)
 clear hi hz0 hz1 hz2
 go_enter Tryz.func80,Tryz.ntmps80
 go_wp2
 have Hmk:=Lib.hid hmk
 clear hmk
 have L0:(w.alloc (.cells (madeCells #[.int .u8 0] N) 5)).heap[w.heap.size]?=some (.cells (madeCells #[.int .u8 0] N) 5 (0,0)):=World.alloc_heap_new _ _
 have B1:Hid (Below w.heap.size w (w.alloc (.cells (madeCells #[.int .u8 0] N) 5))):=Lib.hid (B0.out.alloc B0.out.size _)
 have hz:(madeCells #[.int .u8 0] N).size=N:=size_madeCells _ _
 have LH:=Lib.hid L0
 have ZH:=Lib.hid hz
 have SZ:=B0.out.size
 clear L0 hz
 go_loopw [17] (fun i wr=>∃ (k:Nat) (cs:Array Value),k≤N∧i= .int .i64 k∧wr.heap[w.heap.size]?=some (.cells cs 5 (0,0))∧cs.size=N∧(∀ j,j<k→cs[j]?=some (.int .u8 ((n/256 ^ j % 256:Nat):Int)))∧Below w.heap.size w wr) (fun i _=>N - (intOf i).toNat)
 case atStart=>exact⟨0,_,Nat.zero_le _,rfl,LH.out,ZH.out,fun j h=>by omega,B1.out⟩
 case round =>
  obtain⟨k,cs,hk,rfl,hcs,hsz,hj,hb⟩:=hrel
  have HC:=Lib.hid hcs
  have HZ:=Lib.hid hsz
  have HJ:=Lib.hid hj
  have HB:=Lib.hid hb
  clear hcs hsz hj hb
  by_cases hlt:k<N
  ·have hcell:wr.cell? ⟨w.heap.size,k,none⟩=some (cs[k]'(by rw[HZ.out];exact hlt)):=by
    simp only[World.cell?]
    rw[HC.out]
    simp only[Option.isSome_none,Bool.false_eq_true,if_false]
    exact Array.getElem?_eq_getElem _
   have hfr:wr.frozen? ⟨w.heap.size,k,none⟩=false:=by
    simp only[World.frozen?]
    rw[HC.out]
    simp
   go_wp2
   have HV:(n:Int)/2 ^ (8*k) % 256=((n/256 ^ k % 256:Nat):Int):=by
    have e:(256:Nat) ^ k=2 ^ (8*k):=by rw[Nat.pow_mul]
    rw[e]
    push_cast
    rfl
   go_roundw
   case rel=>exact⟨k+1,cs.setIfInBounds k (.int .u8 ((n/256 ^ k % 256:Nat):Int)),by omega,by go_num,by rw[HV];exact heap_setCell_same _ _ _ _ _ _ HC.out,by rw[Array.size_setIfInBounds];exact HZ.out,fun j h=>by
    rw[Array.getElem?_setIfInBounds]
    by_cases e:k=j
    ·rw[if_pos e,if_pos (by rw[HZ.out];exact hlt)];subst e;rfl
    ·rw[if_neg e];exact HJ.out j (by omega),HB.out.setCell (by simp) _⟩
   case measure=>simp[intOf];omega
  ·have hkN:k=N:=by omega
   have HK:=Lib.hid hkN
   have hcell:∀ i,i<N→wr.cell? ⟨w.heap.size,0+i,none⟩=some (.int .u8 ((putL n N).getD i 0)):=fun i hi=>by
    simp only[World.cell?]
    rw[HC.out]
    simp only[Nat.zero_add,Option.isSome_none,Bool.false_eq_true,if_false]
    rw[HJ.out i (by omega),putL_at _ _ _ hi]
   have hconv:=run_convert_bytes_arg (P:=Tryz.prog) (w:=wr) 101 5 Tryz.underlying101 Tryz.underlying5 w.heap.size 0 N N (putL n N) (putL_len _ _) hcell 9 Tryz.underlying9
   clear hkN hcell
   go_wp2
   go_ret
   exact⟨rfl,HB.out⟩
end Go.Proofs.YtgiogemkomgkhaaGreatDoor.Zp
namespace Go.Proofs.YtgiogemkomgkhaaGreatDoor.Zp
open Go.RowKit
theorem putB_succ:∀ (k n:Nat),putB n (k+1)=putB n k ++ [n/256 ^ k % 256]
 | 0,n=>by simp[putB]
 | k+1,n=>by
  rw[putB,putB_succ k (n/256),putB,Nat.div_div_eq_div_mul,Nat.pow_succ,Nat.mul_comm 256,List.cons_append]
theorem putS_succ (n k:Nat):putS n (k+1)=putS n k++strOfNums [((n/256 ^ k % 256:Nat):Int)]:=by
 have:putL n (k+1)=putL n k ++ [((n/256 ^ k % 256:Nat):Int)]:=by
  simp only[putL,putB_succ,List.map_append,List.map_cons,List.map_nil]
  rfl
 rw[putS,this,putS]
 apply ByteArray.ext
 rw[ByteArray.data_append]
 apply Array.ext'
 rw[Array.toList_append,strOfNums_data,strOfNums_data,strOfNums_data,List.map_append]
set_option maxRecDepth 100000 in
theorem conv_one (v:Int) (W:World):(convert 101 9 (.slice (some ⟨W.heap.size,0,none⟩) 1 1)).run Tryz.prog (W.alloc (.cells #[.int .u8 v] 5))= .ok (.string (strOfNums [v])) (W.alloc (.cells #[.int .u8 v] 5)):=by
 have hcell:∀ i,i<1→(W.alloc (.cells #[.int .u8 v] 5)).cell? ⟨W.heap.size,0+i,none⟩=some (.int .u8 (([v]:List Int).getD i 0)):=fun i hi=>by
  obtain rfl:i=0:=by omega
  simp only[World.cell?]
  rw[World.alloc_heap_new]
  rfl
 exact run_convert_bytes_arg (P:=Tryz.prog) (w:=W.alloc (.cells #[.int .u8 v] 5)) 101 5 Tryz.underlying101 Tryz.underlying5 W.heap.size 0 1 1 [v] rfl hcell 9 Tryz.underlying9
set_option maxHeartbeats 1000000 in
set_option maxRecDepth 100000 in
theorem refput_calls (n N:Nat) (w:World) (hn:n<18446744073709551616) (h1:1≤N) (h8:N≤8) :
  Calls Tryz.prog 54 #[.int .u64 n,.int .i64 N] w fun e w'=>e= .returned (.string (putS n N))∧Below w.heap.size w w':=by
 have q2:decide ((N:Int)≤8)=true:=decide_eq_true (by omega)
 have B0:=Lib.hid (Below.refl w.heap.size w)
 go_enter Tryz.func54,Tryz.ntmps54
 go_wp2
 go_loopw [0,5,6] (fun p s i wr=>∃ (k:Nat),k≤N∧i= .int .i64 k∧s= .string (putS n k)∧p= .int .u64 ((n/256 ^ k:Nat):Int)∧Below w.heap.size w wr) (fun _ _ i _=>N - (intOf i).toNat)
 case atStart=>exact⟨0,Nat.zero_le _,rfl,rfl,by simp,B0.out⟩
 case round =>
  obtain⟨k,hk,rfl,rfl,rfl,hb⟩:=hrel
  have HB:=Lib.hid hb
  clear hb
  by_cases hlt:k<N
  ·obtain⟨m,hm⟩:∃ m,m=n/256 ^ k:=⟨_,rfl⟩
   have hm2:m<18446744073709551616:=by rw[hm];exact Nat.lt_of_le_of_lt (Nat.div_le_self _ _) hn
   rw[← hm]
   have HM:=Lib.hid hm
   clear hm
   have hc:=conv_one ((m:Int) % 256) wr
   have s1:=putS_size n k
   have s2:(strOfNums [(m:Int) % 256]).size=1:=by rw[strOfNums_size];rfl
   have HS:=Lib.hid (putS_succ n k)
   go_wp2
   go_roundw
   case rel=>exact⟨k+1,by omega,by go_num,by rw[HS.out,← HM.out];rfl,by rw[Nat.pow_succ,← Nat.div_div_eq_div_mul,← HM.out];rfl,HB.out.alloc HB.out.size _⟩
   case measure=>simp[intOf];omega
  ·have hkN:k=N:=by omega
   subst hkN
   go_wp2
   go_ret
   exact⟨rfl,HB.out⟩
end Go.Proofs.YtgiogemkomgkhaaGreatDoor.Zp
namespace Go.Proofs.YtgiogemkomgkhaaGreatDoor.Zp
open Go.RowKit
def byL (s:ByteArray):List Nat:=s.data.toList.map UInt8.toNat
def getS (s:ByteArray):Nat:=if s.size≤8 then getB (byL s) else 0
theorem nat_or_add (m i b:Nat) (hb:b<2 ^ i):m*2 ^ i ||| b=m*2 ^ i+b:=by
 rw[← Nat.shiftLeft_eq,Nat.shiftLeft_add_eq_or_of_lt hb]
end Go.Proofs.YtgiogemkomgkhaaGreatDoor.Zp
