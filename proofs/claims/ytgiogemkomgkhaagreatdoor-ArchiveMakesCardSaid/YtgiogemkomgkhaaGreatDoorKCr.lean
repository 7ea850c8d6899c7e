/-
  crc.Table: Make, More, Sum: by the table just the sum that the definition tells.
-/
import Derived.WalkKit
import Derived.Test.YtgiogemkomgkhaaGreatDoorProg
import Derived.Lib.Hide
import Derived.Test.YtgiogemkomgkhaaGreatDoorKZpA
import Derived.BigQuiet
import Derived.Deep.QuietTactic
set_option linter.unusedVariables false
set_option linter.unusedSimpArgs false
namespace Go.Proofs.YtgiogemkomgkhaaGreatDoor.Cr
open Go.RowKit
def poly:Nat:=3988292384
def cstep (s:Nat):Nat:=if s % 2=1 then s/2 ^^^ poly else s/2
def cit:Nat→Nat→Nat
 | 0,s=>s
 | n+1,s=>cit n (cstep s)
def cturn (s:Nat):Nat:=cit 8 s
theorem cstep_xor (a b:Nat):cstep (a ^^^ b)=cstep a ^^^ cstep b:=by
 have hd:(a ^^^ b)/2=a/2 ^^^ b/2:=Nat.xor_div_two
 have hm:(a ^^^ b) % 2=(a % 2) ^^^ (b % 2):=by
  have:=@Nat.xor_mod_two_pow a b 1
  simpa using this
 have ha:a % 2=0∨a % 2=1:=by omega
 have hb:b % 2=0∨b % 2=1:=by omega
 unfold cstep
 rw[hd,hm]
 rcases ha with ha|ha<;>rcases hb with hb|hb<;>rw[ha,hb]<;>simp
 ·rw[Nat.xor_assoc]
 ·rw[Nat.xor_assoc,Nat.xor_assoc,Nat.xor_comm poly]
 ·rw[Nat.xor_assoc,← Nat.xor_assoc poly,Nat.xor_comm poly (b/2),Nat.xor_assoc,Nat.xor_self,Nat.xor_zero]
theorem cit_xor:∀ (n a b:Nat),cit n (a ^^^ b)=cit n a ^^^ cit n b
 | 0,_,_=>rfl
 | n+1,a,b=>by rw[cit,cit,cit,cstep_xor,cit_xor n]
theorem cit_shift:∀ (n h:Nat),cit n (h*2 ^ n)=h
 | 0,h=>by simp[cit]
 | n+1,h=>by
  have e:cstep (h*2 ^ (n+1))=h*2 ^ n:=by
   have h2:h*2 ^ (n+1)=2*(h*2 ^ n):=by rw[Nat.pow_succ];rw[Nat.mul_comm (2 ^ n) 2,Nat.mul_left_comm]
   unfold cstep
   rw[h2,if_neg (by omega)]
   omega
  rw[cit,e,cit_shift n]
theorem split256 (s:Nat):s=(s/256*256) ^^^ (s % 256):=by
 apply Nat.eq_of_testBit_eq
 intro i
 rw[Nat.testBit_xor]
 have e:s/256*256=(s/2 ^ 8) <<< 8:=by rw[Nat.shiftLeft_eq]
 have e2:s % 256=s % 2 ^ 8:=rfl
 rw[e,e2,Nat.testBit_shiftLeft,Nat.testBit_mod_two_pow,Nat.testBit_div_two_pow]
 by_cases h:i<8
 ·simp[h,Nat.not_le.2 h]
 ·have h8:8≤i:=by omega
  simp[h,h8]
theorem turn_table (s b:Nat):cturn (s ^^^ b)=cturn ((s % 256) ^^^ b) ^^^ (s/256):=by
 have h:s ^^^ b=((s % 256) ^^^ b) ^^^ (s/256*256):=by
  rw[Nat.xor_comm ((s % 256) ^^^ b),← Nat.xor_assoc,← split256]
 unfold cturn
 rw[h,cit_xor]
 congr 1
 exact cit_shift 8 (s/256)
theorem cstep_lt (s:Nat) (h:s<4294967296):cstep s<4294967296:=by
 unfold cstep
 split
 ·exact Nat.xor_lt_two_pow (n:=32) (by omega) (by decide)
 ·omega
theorem cit_lt:∀ (n s:Nat),s<4294967296→cit n s<4294967296
 | 0,_,h=>h
 | n+1,s,h=>cit_lt n _ (cstep_lt s h)
def csum (s:Nat):List Nat→Nat
 | []=>s
 | b::l=>csum (cturn (s ^^^ b)) l
theorem csum_snoc (l:List Nat):∀ (s b:Nat),csum s (l ++ [b])=cturn (csum s l ^^^ b):=by
 induction l with
 | nil=>intro s b;rfl
 | cons x l ih=>intro s b;exact ih _ b
theorem csum_lt:∀ (l:List Nat) (s:Nat),s<4294967296→(∀ x∈l,x<256)→csum s l<4294967296
 | [],_,h,_=>h
 | b::l,s,h,hl=>csum_lt l _ (cit_lt 8 _ (Nat.xor_lt_two_pow (n:=32) h (by have:=hl b List.mem_cons_self;omega))) (fun x hx=>hl x (List.mem_cons_of_mem _ hx))
def crcP (l:List Nat):Nat:=4294967295 - csum 4294967295 l
end Go.Proofs.YtgiogemkomgkhaaGreatDoor.Cr
namespace Go.Proofs.YtgiogemkomgkhaaGreatDoor.Cr
open Go.RowKit
theorem xor_u32 (x y:Nat) (hx:x<4294967296) (hy:y<4294967296):Go.bits .xor .u32 (x:Int) (y:Int)=((x ^^^ y:Nat):Int):=by
 have h:Go.bits .xor .u32 (x:Int) (y:Int)=IntKind.u32.wrap (((BitVec.ofInt 32 (x:Int) ^^^ BitVec.ofInt 32 (y:Int)).toNat:Nat):Int):=rfl
 have e1:(BitVec.ofInt 32 (x:Int)).toNat=x:=by rw[BitVec.toNat_ofInt];omega
 have e2:(BitVec.ofInt 32 (y:Int)).toNat=y:=by rw[BitVec.toNat_ofInt];omega
 rw[h,BitVec.toNat_xor,e1,e2,IntKind.wrap_u32]
 have:=Nat.xor_lt_two_pow (n:=32) hx hy
 omega
set_option maxHeartbeats 1000000 in
set_option maxRecDepth 100000 in
theorem refturn_calls (s:Nat) (w:World) (hs:s<4294967296):Calls Tryz.prog 75 #[.int .u32 s] w fun e w'=>e= .returned (.int .u32 (cturn s:Nat))∧w'=w:=by
 obtain⟨R,hR⟩:∃ R,cit (8 - 0) s=R:=⟨_,rfl⟩
 have HR:=Lib.hid hR
 have hc:cturn s=R:=hR
 rw[hc]
 clear hR hc
 go_enter Tryz.func75,Tryz.ntmps75
 go_wp2
 go_loop [0,3] (fun vs vi=>∃ x i:Nat,vs= .int .u32 x∧vi= .int .i64 i∧i≤8∧x<4294967296∧cit (8 - i) x=R) (fun _ vi=>8 - (intOf vi).toNat)
 case atStart=>exact⟨s,0,rfl,rfl,by omega,hs,HR.out⟩
 case round =>
  obtain⟨x,i,rfl,rfl,hi,hx,hc⟩:=hrel
  have HC:=Lib.hid hc
  clear hc
  by_cases hlt:i<8
  ·have q1:decide ((i:Int)<8)=true:=decide_eq_true (by omega)
   obtain⟨h,hh⟩:∃ h,x/2=h:=⟨_,rfl⟩
   have e1:(x:Int)/2=(h:Int):=by omega
   have hh2:h<4294967296:=by omega
   by_cases ho:x % 2=1
   ·have q2:((x:Int) % 2 == 1)=true:=by rw[show(x:Int) % 2=1 by omega];rfl
    have hxo:=xor_u32 h poly hh2 (by decide)
    have hpl:((poly:Nat):Int)=3988292384:=rfl
    rw[hpl]at hxo
    have HN:Hid (cit (8 - (i+1)) (h ^^^ poly)=R):=Lib.hid (by
     have h2:=HC.out
     rw[show 8 - i=(8 - (i+1))+1 by omega,cit,cstep,if_pos ho,hh]at h2
     exact h2)
    have HL:Hid (h ^^^ poly<4294967296):=Lib.hid (Nat.xor_lt_two_pow (n:=32) hh2 (by decide))
    clear ho hh hpl
    go_wp2
    go_round
    case rel=>exact⟨h ^^^ poly,i+1,rfl,by go_num,by omega,HL.out,HN.out⟩
    case measure=>simp[intOf];omega
   ·have q2:((x:Int) % 2 == 1)=false:=beq_eq_false_iff_ne.2 (by omega)
    have HN:Hid (cit (8 - (i+1)) h=R):=Lib.hid (by
     have h2:=HC.out
     rw[show 8 - i=(8 - (i+1))+1 by omega,cit,cstep,if_neg ho,hh]at h2
     exact h2)
    clear ho hh
    go_wp2
    go_round
    case rel=>exact⟨h,i+1,rfl,by go_num,by omega,hh2,HN.out⟩
    case measure=>simp[intOf];omega
  ·have q1:decide ((i:Int)<8)=false:=decide_eq_false (by omega)
   have HN:Hid (x=R):=Lib.hid (by
    have h2:=HC.out
    rw[show 8 - i=0 by omega,cit]at h2
    exact h2)
   go_wp2
   go_ret
   exact⟨by rw[← HN.out]<;>rfl,rfl⟩
def byN (s:ByteArray):List Nat:=s.data.toList.map UInt8.toNat
theorem byN_len (s:ByteArray):(byN s).length=s.size:=by simp[byN]
theorem byN_get (s:ByteArray) (i:Nat) (h:i<s.size):(byN s)[i]'(by rw[byN_len];exact h)=s[i].toNat:=by
 simp[byN]
 rfl
theorem byN_lt (s:ByteArray):∀ x∈byN s,x<256:=by
 intro x hx
 obtain⟨u,_,rfl⟩:=List.mem_map.1 hx
 exact u.toNat_lt
theorem csum_take (s:ByteArray) (i:Nat) (h:i<s.size) (a:Nat):csum a ((byN s).take (i+1))=cturn (csum a ((byN s).take i) ^^^ s[i].toNat):=by
 rw[List.take_succ_eq_append_getElem (by rw[byN_len];exact h),csum_snoc,byN_get s i h]
theorem take_lt (s:ByteArray) (i:Nat):csum 4294967295 ((byN s).take i)<4294967296:=csum_lt _ _ (by decide) (fun x hx=>byN_lt s x (List.mem_of_mem_take hx))
set_option maxHeartbeats 1000000 in
set_option maxRecDepth 100000 in
theorem refmore_calls (s:ByteArray) (w:World) (hs:s.size≤140737488351232):Calls Tryz.prog 48 #[.int .u32 0,.string s] w fun e w'=>e= .returned (.int .u32 (crcP (byN s):Nat))∧w'=w:=by
 have HR:Hid (crcP (byN s)=4294967295 - csum 4294967295 ((byN s).take s.size)):=Lib.hid (by rw[List.take_of_length_le (by rw[byN_len];exact Nat.le_refl _)];rfl)
 go_enter Tryz.func48,Tryz.ntmps48
 go_wp2
 go_loop [0,5] (fun vs vi=>∃ x i:Nat,vs= .int .u32 x∧vi= .int .i64 i∧i≤s.size∧x=csum 4294967295 ((byN s).take i)) (fun _ vi=>s.size - (intOf vi).toNat)
 case atStart=>exact⟨4294967295,0,rfl,rfl,Nat.zero_le _,rfl⟩
 case round =>
  obtain⟨x,i,rfl,rfl,hi,hx⟩:=hrel
  have hxl:x<4294967296:=by rw[hx];exact take_lt s i
  have HX:=Lib.hid hx
  clear hx
  by_cases hlt:i<s.size
  ·have q1:decide ((i:Int)<(s.size:Int))=true:=decide_eq_true (by omega)
   have q1':decide (i<s.size)=true:=decide_eq_true hlt
   have HN:Hid (cturn (x ^^^ s[i].toNat)=csum 4294967295 ((byN s).take (i+1))):=Lib.hid (by rw[csum_take s i hlt,← HX.out])
   have hb:s[i].toNat<256:=s[i].toNat_lt
   have hxo:=xor_u32 x s[i].toNat hxl (by omega)
   have HT:=Lib.hid (refturn_calls (x ^^^ s[i].toNat) w (Nat.xor_lt_two_pow (n:=32) hxl (by omega)))
   have i0:(0:Int)≤(i:Int):=by omega
   go_wp2_with fail
   refine HT.out.mono ?_
   rintro e w1 ⟨rfl,rfl⟩
   go_wp2
   go_round
   case rel=>exact⟨_,i+1,rfl,by go_num,by omega,HN.out⟩
   case measure=>simp[intOf];omega
  ·have q1:decide ((i:Int)<(s.size:Int))=false:=decide_eq_false (by omega)
   have q1':decide (i<s.size)=false:=decide_eq_false hlt
   have HE:Hid (crcP (byN s)=4294967295 - x):=Lib.hid (by rw[HR.out,HX.out,show i=s.size by omega])
   have e1:(4294967295:Int) - (x:Int)=((4294967295 - x:Nat):Int):=by omega
   go_wp2
   go_ret
   exact⟨by rw[HE.out]<;>rfl,rfl⟩
end Go.Proofs.YtgiogemkomgkhaaGreatDoor.Cr
namespace Go.Proofs.YtgiogemkomgkhaaGreatDoor.Cr
open Go.RowKit Zp
theorem and1_u32 (x:Nat) (hx:x<4294967296):Go.bits .and .u32 (x:Int) 1=((x % 2:Nat):Int):=by
 have h:Go.bits .and .u32 (x:Int) 1=IntKind.u32.wrap (((BitVec.ofInt 32 (x:Int) &&& BitVec.ofInt 32 1).toNat:Nat):Int):=rfl
 have e1:(BitVec.ofInt 32 (x:Int)).toNat=x:=by rw[BitVec.toNat_ofInt];omega
 have e2:(BitVec.ofInt 32 1).toNat=1:=rfl
 rw[h,BitVec.toNat_and,e1,e2,IntKind.wrap_u32,Nat.and_one_is_mod]
 omega
def TabC (w:World) (T:Nat):Prop:=∀ i,i<256→w.cell? ⟨T,i,none⟩=some (.int .u32 (cturn i:Nat))
theorem TabC.lt {w:World} {T:Nat} (h:TabC w T):T<w.heap.size:=World.block_lt_of_cell? w _ (h 0 (by decide))
theorem TabC.under {w w':World} {T B:Nat} (h:TabC w T) (hT:T<B) (hb:Below B w w'):TabC w' T:=fun i hi=>(hb.cell (p:=⟨T,i,none⟩) hT).trans (h i hi)
theorem TabC.below {w w':World} {T:Nat} (h:TabC w T) (hb:Below w.heap.size w w'):TabC w' T:=h.under h.lt hb
theorem TabC.heap {w w':World} {T:Nat} (h:TabC w T) (hb:w'.heap[T]?=w.heap[T]?):TabC w' T:=fun i hi=>(World.cell?_of_block (a:=⟨T,i,none⟩) hb).trans (h i hi)
def tabRow (k:Nat) (cs:Array Value):Prop:=cs.size=256∧∀ i,i<k→cs[i]?=some (.int .u32 (cturn i:Nat))
set_option maxHeartbeats 2000000 in
set_option maxRecDepth 100000 in
theorem make_calls (w:World):Calls Tryz.prog 21 #[] w fun e w'=>e= .returned (.pointer (some ⟨w.heap.size,0,none⟩))∧TabC w' w.heap.size∧Below w.heap.size w w':=by
 obtain⟨Z,hZ⟩:∃ Z:Array Value,Tryz.zeroCells90=Z:=⟨_,rfl⟩
 have hsz:(Tryz.zeroCells90).size=256:=by kernel_rfl
 have hzs:tabRow 0 Z:=⟨by rw[← hZ];exact hsz,fun i hi=>by omega⟩
 have K0:=Lib.hid (And.intro (Blk.new w Z 90) hzs)
 have B0:=Lib.hid ((Below.refl w.heap.size w).alloc (Nat.le_refl _) (.cells Z 90))
 clear hzs hsz
 go_enter Tryz.func21,Tryz.ntmps21
 go_wp2
 clear hZ
 obtain⟨B,hB⟩:∃ B,w.heap.size=B:=⟨_,rfl⟩
 obtain⟨w1,hw1⟩:∃ w1,w.alloc (.cells Z 90)=w1:=⟨_,rfl⟩
 have HBB:=Lib.hid hB
 rw[hw1,hB]at K0 B0
 rw[hw1,hB]
 clear hw1 hB
 go_loopw [5] (fun vi wr=>∃ (k:Nat) (cs:Array Value),k≤256∧vi= .int .i64 k∧Blk B cs 90 wr∧tabRow k cs∧Below B w wr) (fun vi _=>256 - (intOf vi).toNat)
 case atStart=>exact⟨0,Z,by omega,rfl,K0.out.1,K0.out.2,B0.out⟩
 case round =>
  obtain⟨k,cs,hk,rfl,hblk,hrow,hbl⟩:=hrel
  have HK:=Lib.hid hblk
  have HR:=Lib.hid hrow
  have HB:=Lib.hid hbl
  clear hblk hrow hbl K0 B0
  by_cases hlt:k<256
  ·have q1:decide ((k:Int)<256)=true:=decide_eq_true (by omega)
   obtain⟨R,hR⟩:∃ R,cit (8 - 0) k=R:=⟨_,rfl⟩
   have HRR:Hid (cturn k=R):=Lib.hid hR
   have HS:=Lib.hid hR
   clear hR
   go_wp2
   go_loop [3,10] (fun vs vi=>∃ x i:Nat,vs= .int .u32 x∧vi= .int .i64 i∧i≤8∧x<4294967296∧cit (8 - i) x=R) (fun _ vi=>8 - (intOf vi).toNat)
   case atStart=>exact⟨k,0,rfl,rfl,by omega,by omega,HS.out⟩
   case round =>
    obtain⟨x,i,rfl,rfl,hi,hx,hc⟩:=hrel
    have HC:=Lib.hid hc
    clear hc HS
    by_cases hlt2:i<8
    ·have q2:decide ((i:Int)<8)=true:=decide_eq_true (by omega)
     obtain⟨h,hh⟩:∃ h,x/2=h:=⟨_,rfl⟩
     have e1:(x:Int)/2=(h:Int):=by omega
     have hh2:h<4294967296:=by omega
     by_cases ho:x % 2=1
     ·have q3:(Go.bits .and .u32 (x:Int) 1 == 1)=true:=by rw[and1_u32 x hx,ho];rfl
      have hxo:=xor_u32 h poly hh2 (by decide)
      have hpl:((poly:Nat):Int)=3988292384:=rfl
      rw[hpl]at hxo
      have HN:Hid (cit (8 - (i+1)) (h ^^^ poly)=R):=Lib.hid (by
       have h2:=HC.out
       rw[show 8 - i=(8 - (i+1))+1 by omega,cit,cstep,if_pos ho,hh]at h2
       exact h2)
      have HL:Hid (h ^^^ poly<4294967296):=Lib.hid (Nat.xor_lt_two_pow (n:=32) hh2 (by decide))
      clear ho hh hpl
      go_wp2
      go_round
      case rel=>exact⟨h ^^^ poly,i+1,rfl,by go_num,by omega,HL.out,HN.out⟩
      case measure=>simp[intOf];omega
     ·have q3:(Go.bits .and .u32 (x:Int) 1 == 1)=false:=by rw[and1_u32 x hx];exact beq_eq_false_iff_ne.2 (by omega)
      have HN:Hid (cit (8 - (i+1)) h=R):=Lib.hid (by
       have h2:=HC.out
       rw[show 8 - i=(8 - (i+1))+1 by omega,cit,cstep,if_neg ho,hh]at h2
       exact h2)
      clear ho hh
      go_wp2
      go_round
      case rel=>exact⟨h,i+1,rfl,by go_num,by omega,hh2,HN.out⟩
      case measure=>simp[intOf];omega
    ·have q2:decide ((i:Int)<8)=false:=decide_eq_false (by omega)
     have HN:Hid (x=R):=Lib.hid (by
      have h2:=HC.out
      rw[show 8 - i=0 by omega,cit]at h2
      exact h2)
     have f0:=HK.out.frozen k
     have i0:(0:Int)≤(k:Int):=by omega
     have i1:(k:Int)<256:=by omega
     obtain⟨y,hy⟩:∃ y,cs[k]?=some y:=⟨_,Array.getElem?_eq_getElem (xs:=cs) (by rw[HR.out.1];exact hlt)⟩
     have c0:wr.cell? ⟨B,k,none⟩=some y:=(HK.out.cell k).trans hy
     have HX:Hid (tabRow (k+1) (cs.setIfInBounds k (.int .u32 (x:Nat)))):=Lib.hid ⟨by rw[Array.size_setIfInBounds];exact HR.out.1,fun j hj=>by
      rw[Array.getElem?_setIfInBounds]
      by_cases hjk:k=j
      ·subst hjk
       rw[if_pos rfl,if_pos (by rw[HR.out.1];exact hlt),HN.out,HRR.out]
      ·rw[if_neg hjk]
       exact HR.out.2 j (by omega)⟩
     have HK2:=Lib.hid (HK.out.set k (.int .u32 (x:Nat)))
     have HB2:Hid (Below B w (wr.setCell ⟨B,k,none⟩ (.int .u32 (x:Nat)))):=Lib.hid (HB.out.setCell (p:=⟨B,k,none⟩) (Nat.le_refl _) _)
     clear hy
     go_wp2
     go_roundw
     case rel=>exact⟨k+1,_,by omega,by go_num,HK2.out,HX.out,HB2.out⟩
     case measure=>simp[intOf];omega
  ·have q1:decide ((k:Int)<256)=false:=decide_eq_false (by omega)
   have HT:Hid (TabC wr B):=Lib.hid (fun i hi=>(HK.out.cell i).trans (HR.out.2 i (by omega)))
   go_wp2
   go_ret
   exact⟨by rw[HBB.out]<;>rfl,by rw[HBB.out];exact HT.out,by rw[HBB.out];exact HB.out⟩
theorem drewN_hp (w:World) (q:Nat):(w.drewN q).heap=w.heap:=by
 induction q generalizing w with
 | zero=>rfl
 | succ q ih=>rw[← World.drew_drewN];exact ih w
def moreP (a:Nat) (s:ByteArray):Nat:=4294967295 - csum (4294967295 - a) (byN s)
theorem take_lt2 (a:Nat) (ha:a≤4294967295) (s:ByteArray) (i:Nat):csum (4294967295 - a) ((byN s).take i)<4294967296:=csum_lt _ _ (by omega) (fun x hx=>byN_lt s x (List.mem_of_mem_take hx))
theorem not_u32 (a:Nat) (ha:a<4294967296):Go.bits .xor .u32 IntKind.u32.max (a:Int)=((4294967295 - a:Nat):Int):=by
 rw[show IntKind.u32.max=((4294967295:Nat):Int) from rfl,xor_u32 _ _ (by decide) ha]
 congr 1
 apply Nat.eq_of_testBit_eq
 intro i
 rw[Nat.testBit_xor,show(4294967295:Nat)=2 ^ 32 - 1 from rfl,Nat.testBit_two_pow_sub_one,show 2 ^ 32 - 1 - a=2 ^ 32 - (a+1) by omega,Nat.testBit_two_pow_sub_succ (by omega)]
 by_cases h:i<32
 ·simp[h]
 ·have:a.testBit i=false:=Nat.testBit_lt_two_pow (Nat.lt_of_lt_of_le ha (Nat.pow_le_pow_right (show 2>0 by decide) (show 32≤i by omega)))
  simp[h,this]
theorem u8_mod (x:Nat):IntKind.u8.wrap (x:Int)=((x % 256:Nat):Int):=by
 rw[IntKind.wrap_u8]
 omega
theorem xor_u8 (x y:Nat) (hx:x<256) (hy:y<256):Go.bits .xor .u8 (x:Int) (y:Int)=((x ^^^ y:Nat):Int):=by
 have h:Go.bits .xor .u8 (x:Int) (y:Int)=IntKind.u8.wrap (((BitVec.ofInt 8 (x:Int) ^^^ BitVec.ofInt 8 (y:Int)).toNat:Nat):Int):=rfl
 have e1:(BitVec.ofInt 8 (x:Int)).toNat=x:=by rw[BitVec.toNat_ofInt];omega
 have e2:(BitVec.ofInt 8 (y:Int)).toNat=y:=by rw[BitVec.toNat_ofInt];omega
 rw[h,BitVec.toNat_xor,e1,e2,IntKind.wrap_u8]
 have:=Nat.xor_lt_two_pow (n:=8) hx hy
 omega
set_option maxHeartbeats 2000000 in
set_option maxRecDepth 100000 in
theorem more_calls (T a:Nat) (s:ByteArray) (w:World) (hT:TabC w T) (ha:a≤4294967295) (hs:s.size≤140737488351232) :
  Calls Tryz.prog 76 #[.pointer (some ⟨T,0,none⟩),.int .u32 a,.string s] w fun e w'=>e= .returned (.int .u32 (moreP a s:Nat))∧∃ q,w'=w.drewN q:=by
 have HR:Hid (moreP a s=4294967295 - csum (4294967295 - a) ((byN s).take s.size)):=Lib.hid (by rw[List.take_of_length_le (by rw[byN_len];exact Nat.le_refl _)];rfl)
 have HT:=Lib.hid hT
 have e1:=not_u32 a (by omega)
 obtain⟨a1,ha1⟩:∃ a1,4294967295 - a=a1:=⟨_,rfl⟩
 have HL:Hid (∀ i,csum a1 ((byN s).take i)<4294967296):=Lib.hid (fun i=>by rw[← ha1];exact take_lt2 a ha s i)
 rw[ha1]at HR e1
 have ha2:a1≤4294967295:=by omega
 have hsg:IntKind.u32.signed=false:=rfl
 clear hT ha1
 go_enter Tryz.func76,Tryz.ntmps76
 go_wp2
 clear e1
 go_loopw [1,14] (fun vs vi wr=>∃ x i q:Nat,vs= .int .u32 x∧vi= .int .i64 i∧i≤s.size∧wr=w.drewN q∧x=csum a1 ((byN s).take i)) (fun _ vi _=>s.size - (intOf vi).toNat)
 case atStart=>exact⟨a1,0,0,rfl,rfl,Nat.zero_le _,rfl,rfl⟩
 case round =>
  obtain⟨x,i,q,rfl,rfl,hi,hw,hx⟩:=hrel
  have hxl:x<4294967296:=by rw[hx];exact HL.out i
  have HX:=Lib.hid hx
  have HW:=Lib.hid hw
  have HT1:TabC wr T:=by rw[hw];exact HT.out.heap (by rw[drewN_hp])
  clear hx hw
  by_cases hlt:i<s.size
  ·have q1:decide ((i:Int)<(s.size:Int))=true:=decide_eq_true (by omega)
   have q1':decide (i<s.size)=true:=decide_eq_true hlt
   have hb:s[i].toNat<256:=s[i].toNat_lt
   have hm:x % 256<256:=Nat.mod_lt _ (by decide)
   have HN:Hid ((cturn ((x % 256) ^^^ s[i].toNat)) ^^^ (x/256)=csum a1 ((byN s).take (i+1))):=Lib.hid (by rw[csum_take s i hlt,← HX.out];exact(turn_table _ _).symm)
   have hk:=Nat.xor_lt_two_pow (n:=8) hm hb
   have hx8:=xor_u8 (x % 256) s[i].toNat hm hb
   have hu8:=u8_mod x
   obtain⟨k,hkk⟩:∃ k,(x % 256) ^^^ s[i].toNat=k:=⟨_,rfl⟩
   rw[hkk]at hk hx8 HN
   obtain⟨m,hmm⟩:∃ m,x % 256=m:=⟨_,rfl⟩
   rw[hmm]at hx8 hu8
   have c0:=HT1 k hk
   have hcl:cturn k<4294967296:=cit_lt 8 _ (by omega)
   obtain⟨y,hy⟩:∃ y,cturn k=y:=⟨_,rfl⟩
   rw[hy]at c0 hcl HN
   obtain⟨z,hz⟩:∃ z,x/256=z:=⟨_,rfl⟩
   have ez:(x:Int)/256=(z:Int):=by omega
   have hzl:z<4294967296:=by omega
   have hx32:=xor_u32 y z hcl hzl
   rw[hz]at HN
   have i0:(0:Int)≤(i:Int):=by omega
   have k0:(0:Int)≤(k:Int):=by omega
   have k1:(k:Int)<256:=by omega
   clear hm hkk hmm hy hz HT1
   go_wp2
   go_quiet (fail)
   generalize hW:World.drewN _ _=w2
   have HW2:Hid (∃ q,w2=w.drewN q):=Lib.hid (by rw[← hW,HW.out];exact⟨_,World.drewN_drewN ..⟩)
   clear hW
   go_wp2
   go_roundw
   case rel =>
    obtain⟨q2,hq2⟩:=HW2.out
    exact⟨_,i+1,q2,rfl,by go_num,by omega,hq2,HN.out⟩
   case measure=>simp[intOf];omega
  ·have q1:decide ((i:Int)<(s.size:Int))=false:=decide_eq_false (by omega)
   have q1':decide (i<s.size)=false:=decide_eq_false hlt
   have HE:Hid (moreP a s=4294967295 - x):=Lib.hid (by rw[HR.out,HX.out,show i=s.size by omega])
   have e1:=not_u32 x (by omega)
   go_wp2
   go_ret
   exact⟨by rw[HE.out]<;>rfl,q,HW.out⟩
theorem sum_calls (T:Nat) (s:ByteArray) (w:World) (hT:TabC w T) (hs:s.size≤140737488351232) :
  Calls Tryz.prog 58 #[.pointer (some ⟨T,0,none⟩),.string s] w fun e w'=>e= .returned (.int .u32 (crcP (byN s):Nat))∧∃ q,w'=w.drewN q:=by
 have HM:=Lib.hid (more_calls T 0 s w hT (by decide) hs)
 clear hT
 go_enter Tryz.func58,Tryz.ntmps58
 go_wp2_with fail
 refine HM.out.mono ?_
 rintro e w1 ⟨rfl,hq⟩
 go_wp2
 go_ret
 exact⟨rfl,hq⟩
end Go.Proofs.YtgiogemkomgkhaaGreatDoor.Cr
