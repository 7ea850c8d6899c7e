/-
  The reference's head of a file at a place. (Printed by mkamhead.py.)
-/
import Derived.Test.YtgiogemkomgkhaaGreatDoorKAmR
import Derived.Test.YtgiogemkomgkhaaGreatDoorKArA
import Derived.Test.YtgiogemkomgkhaaGreatDoorKRegA
import Derived.Test.YtgiogemkomgkhaaGreatDoorKCr
set_option linter.unusedVariables false
set_option linter.unusedSimpArgs false
namespace Go.Proofs.YtgiogemkomgkhaaGreatDoor.Ar
open Go.RowKit Go.Shelf Zp YtgiogemkomgkhaaGreatDoor.Nm Ri
structure SmallH (h:Hd):Prop where
 f:FineH h
 b:bigH h=false
 p:h.pos≤4294967294
set_option maxHeartbeats 4000000 in
set_option maxRecDepth 100000 in
theorem reftail_calls (A:Option Addr) (c:Nat) (hs:List Hd) (w:World) (hA:Cels w A (hs.flatMap hdL)) (hn:hs.length≤1048576) (hf:∀ h∈hs,SmallH h) :
  Calls Tryz.prog 32 #[.slice A hs.length c] w fun e w'=>e= .returned (.string (tailS hs))∧Below w.heap.size w w':=by
 have HA:=Lib.hid hA
 have HF:=Lib.hid hf
 have B0:=Lib.hid (Below.refl w.heap.size w)
 obtain⟨n,hn0⟩:∃ n,hs.length=n:=⟨_,rfl⟩
 have HN:=Lib.hid hn0
 rw[hn0]at hn
 rw[hn0]
 clear hA hf hn0
 go_enter Tryz.func32,Tryz.ntmps32
 go_wp2
 go_loopw [3,4,5] (fun vs va vi wr=>∃ k:Nat,k≤n∧vi= .int .i64 k∧va= .int .u64 (tailAt (hs.take k) 0)∧vs= .string ⟨(catL (hs.take k)).toArray⟩∧Below w.heap.size w wr) (fun _ _ vi _=>n - (intOf vi).toNat)
 case atStart=>exact⟨0,Nat.zero_le _,rfl,rfl,rfl,B0.out⟩
 case round =>
  obtain⟨k,hk,rfl,rfl,rfl,hbl⟩:=hrel
  have HBL:=Lib.hid hbl
  clear hbl B0
  by_cases hlt:k<n
  ·have q1:decide ((k:Int)<(n:Int))=true:=decide_eq_true (by omega)
   have q1':decide (k<n)=true:=decide_eq_true hlt
   have hkl:k<hs.length:=by rw[HN.out];exact hlt
   obtain⟨g,o,rfl,hc⟩:=(HA.out.below HBL.out).of hdL_len (by decide) k hs[k] (List.getElem?_eq_getElem hkl)
   have hfk:=HF.out hs[k] (List.getElem_mem hkl)
   have HTK:Hid (hs.take (k+1)=hs.take k ++ [hs[k]]):=Lib.hid (List.take_succ_eq_append_getElem hkl)
   obtain⟨h,hh⟩:∃ h,hs[k]=h:=⟨_,rfl⟩
   rw[hh]at hc hfk HTK
   have HFK:=Lib.hid hfk
   obtain⟨⟨⟨hn0,hp0,hs0,hu0,ha0⟩,hg0,hm0,hcz,hpl⟩,hbg,hps⟩:=hfk
   have hlc:=fun W=>reflocal_calls h W HFK.out.f.ok hg0 hbg
   have hde:=fun W=>refdescr_any h W HFK.out.f.ok hg0 hbg
   have hce:=fun W=>refcentral_calls h W HFK.out.f.ok hg0 hbg hps
   have hgo:=fun W=>rgood_calls h W HFK.out.f.ok
   rw[hg0]at hgo
   obtain⟨name,⟨y,mo,d,hh',mi,sx⟩,packed,size,sum,pos,kept⟩:=h
   have i0:(0:Int)≤(k:Int):=by omega
   have i1:(k:Int)<(n:Int):=by omega
   clear hh hg0 hbg hps
   simp only[Hd.val]at hlc hde hce hgo
   obtain⟨LS,hLS⟩:∃ LS,locS ⟨name,⟨y,mo,d,hh',mi,sx⟩,packed,size,sum,pos,kept⟩=LS:=⟨_,rfl⟩
   obtain⟨DS,hDS⟩:∃ DS,desS ⟨name,⟨y,mo,d,hh',mi,sx⟩,packed,size,sum,pos,kept⟩=DS:=⟨_,rfl⟩
   obtain⟨CS,hCS⟩:∃ CS,cenS ⟨name,⟨y,mo,d,hh',mi,sx⟩,packed,size,sum,pos,kept⟩=CS:=⟨_,rfl⟩
   have HNX:Hid (tailAt (hs.take (k+1)) 0=pos+LS.size+packed+DS.size):=Lib.hid (by rw[HTK.out,tailAt_snoc,← hLS,← hDS];rfl)
   have hln:(catL (hs.take k)).length≤1000000*k:=Nat.le_trans (catL_len _ (fun x hx=>(HF.out x (List.mem_of_mem_take hx)).f.c)) (Nat.mul_le_mul_left _ (by rw[List.length_take];omega))
   have HCX:Hid ((⟨(catL (hs.take (k+1))).toArray⟩:ByteArray)=⟨(catL (hs.take k)).toArray⟩++CS):=Lib.hid (by
    rw[HTK.out,catL_snoc,hCS]
    apply ByteArray.ext
    rw[ByteArray.data_append]
    simp)
   have hsz:(⟨(catL (hs.take k)).toArray⟩:ByteArray).size≤1000000*k:=by simpa[ByteArray.size] using hln
   generalize (⟨(catL (hs.take k)).toArray⟩:ByteArray)=SB at *
   unfold nextAt at hm0
   dsimp only at hm0 hpl hn0 hp0 hs0 hu0 ha0
   rw[hLS,hDS]at hm0
   rw[hLS]at hpl hlc
   rw[hDS]at hde
   rw[hCS]at hce hcz
   have HL:Hid (∀ W,Calls Tryz.prog 30 #[.agg #[.string name,.int .i64 y,.int .i64 mo,.int .i64 d,.int .i64 hh',.int .i64 mi,.int .i64 sx,.int .u64 packed,.int .u64 size,.int .u32 sum,.int .u64 pos,.bool kept]] W fun e w'=>e= .returned (.string LS)∧Below W.heap.size W w'):=Lib.hid hlc
   have HD:Hid (∀ W,Calls Tryz.prog 31 #[.agg #[.string name,.int .i64 y,.int .i64 mo,.int .i64 d,.int .i64 hh',.int .i64 mi,.int .i64 sx,.int .u64 packed,.int .u64 size,.int .u32 sum,.int .u64 pos,.bool kept]] W fun e w'=>e= .returned (.string DS)∧Below W.heap.size W w'):=Lib.hid hde
   have HC:Hid (∀ W,Calls Tryz.prog 55 #[.agg #[.string name,.int .i64 y,.int .i64 mo,.int .i64 d,.int .i64 hh',.int .i64 mi,.int .i64 sx,.int .u64 packed,.int .u64 size,.int .u32 sum,.int .u64 pos,.bool kept]] W fun e w'=>e= .returned (.string CS)∧Below W.heap.size W w'):=Lib.hid hce
   have HG:Hid (∀ W,Calls Tryz.prog 49 #[.agg #[.string name,.int .i64 y,.int .i64 mo,.int .i64 d,.int .i64 hh',.int .i64 mi,.int .i64 sx,.int .u64 packed,.int .u64 size,.int .u32 sum,.int .u64 pos,.bool kept]] W fun e w'=>e= .returned (.bool true)∧Below W.heap.size W w'):=Lib.hid hgo
   have hwl:IntKind.u64.wrap (LS.size:Int)=(LS.size:Int):=by rw[IntKind.wrap_u64];omega
   have hwd:IntKind.u64.wrap (DS.size:Int)=(DS.size:Int):=by rw[IntKind.wrap_u64];omega
   have hw1:IntKind.u64.wrap (pos+(LS.size:Int))=pos+LS.size:=by rw[IntKind.wrap_u64];omega
   have hw2:IntKind.u64.wrap (pos+(LS.size:Int)+packed)=pos+LS.size+packed:=by rw[IntKind.wrap_u64];omega
   have hw3:IntKind.u64.wrap (pos+(LS.size:Int)+packed+DS.size)=pos+LS.size+packed+DS.size:=by rw[IntKind.wrap_u64];omega
   clear hlc hde hce hgo hLS hDS hCS hln
   have c0':=hc 0 _ rfl
   have hgw:=World.block_lt_of_cell? _ _ c0'
   obtain⟨U,f,HAB⟩:=above wr.heap.size wr
   have cu:∀ u j v,(hdL ⟨name,⟨y,mo,d,hh',mi,sx⟩,packed,size,sum,pos,kept⟩)[j]?=some v→(f u).cell? ⟨g,o+k*12+j,none⟩=some v:=fun u j v hv=>((HAB.below u).cell (p:=⟨g,o+k*12+j,none⟩) (World.block_lt_of_cell? _ _ (hc j v hv))).trans (hc j v hv)
   have c0:∀ u,(f u).cell? ⟨g,o+k*12+0,none⟩=some (.string name):=fun u=>cu u 0 _ rfl
   have c1:∀ u,(f u).cell? ⟨g,o+k*12+1,none⟩=some (.int .i64 y):=fun u=>cu u 1 _ rfl
   have c2:∀ u,(f u).cell? ⟨g,o+k*12+2,none⟩=some (.int .i64 mo):=fun u=>cu u 2 _ rfl
   have c3:∀ u,(f u).cell? ⟨g,o+k*12+3,none⟩=some (.int .i64 d):=fun u=>cu u 3 _ rfl
   have c4:∀ u,(f u).cell? ⟨g,o+k*12+4,none⟩=some (.int .i64 hh'):=fun u=>cu u 4 _ rfl
   have c5:∀ u,(f u).cell? ⟨g,o+k*12+5,none⟩=some (.int .i64 mi):=fun u=>cu u 5 _ rfl
   have c6:∀ u,(f u).cell? ⟨g,o+k*12+6,none⟩=some (.int .i64 sx):=fun u=>cu u 6 _ rfl
   have c7:∀ u,(f u).cell? ⟨g,o+k*12+7,none⟩=some (.int .u64 packed):=fun u=>cu u 7 _ rfl
   have c8:∀ u,(f u).cell? ⟨g,o+k*12+8,none⟩=some (.int .u64 size):=fun u=>cu u 8 _ rfl
   have c9:∀ u,(f u).cell? ⟨g,o+k*12+9,none⟩=some (.int .u32 sum):=fun u=>cu u 9 _ rfl
   have c10:∀ u,(f u).cell? ⟨g,o+k*12+10,none⟩=some (.int .u64 pos):=fun u=>cu u 10 _ rfl
   have c11:∀ u,(f u).cell? ⟨g,o+k*12+11,none⟩=some (.bool kept):=fun u=>cu u 11 _ rfl
   simp only[Nat.add_zero]at c0
   have HU:=Lib.hid HAB
   obtain⟨u0,hu0⟩:=HAB.start
   have hne:Nonempty U:=⟨u0⟩
   have HE:Hid (∀ u,Below w.heap.size w (f u)):=Lib.hid (fun u=>HBL.out.trans ((HAB.below u).mono HBL.out.size))
   clear HAB hc cu c0' hgw HBL
   rw[hu0]
   clear hu0
   go_wp2_with (first|(go_at_call 49;refine(HG.out _).mono ?_;rintro e w1 ⟨rfl,hb⟩;obtain⟨u1,rfl⟩:=HU.out.next (Nat.le_refl _) hb;clear hb))
   refine wp_region_class (C:=fun w'=>∃ u,w'=f u) (by kernel_rfl) (by kernel_rfl) (HU.out.drew _) ?_
   repeat (go_big_quiet_step (first|(go_at_call 30;refine(HL.out _).mono ?_;rintro e w1 ⟨rfl,hb⟩;exact⟨rfl,HU.out.next (Nat.le_refl _) hb⟩)|(go_at_call 31;refine(HD.out _).mono ?_;rintro e w1 ⟨rfl,hb⟩;exact⟨rfl,HU.out.next (Nat.le_refl _) hb⟩)))
   refine wpQuiet_nil ?_
   rintro wx ⟨u2,rfl⟩
   go_wp2_with (first|(go_at_call 55;refine(HC.out _).mono ?_;rintro e w1 ⟨rfl,hb⟩;obtain⟨u1,rfl⟩:=HU.out.next (Nat.le_refl _) hb;clear hb))
   go_roundw
   case rel=>exact⟨k+1,by omega,by go_num,by rw[HNX.out],by rw[HCX.out],HE.out _⟩
   case measure=>simp[intOf];omega
  ·obtain rfl:k=n:=by omega
   have q1:decide ((k:Int)<(k:Int))=false:=decide_eq_false (by omega)
   have q1':decide (k<k)=false:=decide_eq_false (by omega)
   have hall:hs.take k=hs:=List.take_of_length_le (by rw[HN.out];exact Nat.le_refl _)
   rw[hall]
   clear hall
   have hcl:(catL hs).length≤1000000*k:=by rw[← HN.out];exact catL_len _ (fun x hx=>(HF.out x hx).f.c)
   have hta:0≤tailAt hs 0∧tailAt hs 0<4611686018427387904:=by
    rcases List.eq_nil_or_concat hs with e|⟨l,x,e⟩
    ·rw[e];exact⟨by decide,by decide⟩
    ·have:=(HF.out x (by rw[e];simp)).f.m
     rw[e,List.concat_eq_append,tailAt_snoc]
     exact this
   have HR:Hid (tailS hs=⟨(catL hs).toArray⟩++endS hs.length (catL hs).length (tailAt hs 0)):=Lib.hid rfl
   rw[HN.out]at HR
   generalize tailAt hs 0=ta at *
   generalize hcat:catL hs=CL at *
   clear hcat
   obtain⟨z,hz⟩:∃ z,CL.length=z:=⟨_,rfl⟩
   rw[hz]at hcl HR
   have hwk:IntKind.u64.wrap (k:Int)=(k:Int):=by rw[IntKind.wrap_u64];omega
   have hwz:IntKind.u64.wrap (z:Int)=(z:Int):=by rw[IntKind.wrap_u64];omega
   obtain⟨SS,hSS⟩:∃ SS:ByteArray,⟨CL.toArray⟩=SS:=⟨_,rfl⟩
   have hss:SS.size=z:=by rw[← hSS,← hz];simp[ByteArray.size]
   rw[hSS]at HR
   rw[hSS]
   obtain⟨ES,hES⟩:∃ ES,endS (k:Int) (z:Int) ta=ES:=⟨_,rfl⟩
   have hes:ES.size≤200:=by rw[← hES];exact endS_le _ _ _
   have HEN:=Lib.hid (fun W=>refend_calls (k:Int) (z:Int) ta W (by omega) (by omega) (by omega) (by omega) (by omega) (by omega))
   rw[hES]at HR HEN
   clear hz hSS hES
   go_wp2_with (first|(go_at_call 56;refine(HEN.out _).mono ?_;rintro e w1 ⟨rfl,hb⟩;replace HBL:=Lib.hid (HBL.out.trans (hb.mono HBL.out.size));clear hb))
   go_ret
   exact⟨by rw[HR.out]<;>rfl,HBL.out⟩
end Go.Proofs.YtgiogemkomgkhaaGreatDoor.Ar
namespace Go.Proofs.YtgiogemkomgkhaaGreatDoor.Ar
open Go.RowKit Go.Shelf Zp YtgiogemkomgkhaaGreatDoor.Nm Cr Ri
def headR (nm:ByteArray) (t:Tm) (da st:ByteArray) (pos:Nat):Hd :=
 ⟨nm,t,if da.size=0 then 0 else(st.size:Int),(da.size:Int),if da.size=0 then 0 else(crcP (byN da):Int),(pos:Int),decide (da.size=0)⟩
set_option maxHeartbeats 2000000 in
set_option maxRecDepth 100000 in
theorem refhead_calls (nm da st:ByteArray) (y mo d hh mi sx:Int) (pos:Nat) (w:World) (h1:nm.size≤140737488351232) (h2:da.size≤140737488351232) (h3:st.size≤140737488351232) (hp:pos≤140737488351232) :
  Calls Tryz.prog 29 #[.agg #[.string nm,.int .i64 y,.int .i64 mo,.int .i64 d,.int .i64 hh,.int .i64 mi,.int .i64 sx,.string da,.string st],.int .i64 pos] w fun e w'=>e= .returned (headR nm ⟨y,mo,d,hh,mi,sx⟩ da st pos).val∧Below w.heap.size w w':=by
 have hwp:IntKind.u64.wrap (pos:Int)=(pos:Int):=by rw[IntKind.wrap_u64];omega
 have hwd:IntKind.u64.wrap (da.size:Int)=(da.size:Int):=by rw[IntKind.wrap_u64];omega
 have hwt:IntKind.u64.wrap (st.size:Int)=(st.size:Int):=by rw[IntKind.wrap_u64];omega
 by_cases h0:da.size=0
 ·obtain rfl:da=⟨#[]⟩:=by apply ByteArray.ext;exact Array.eq_empty_of_size_eq_zero h0
  have eN:(⟨#[]⟩:ByteArray).toList.isEmpty=true:=by simp
  go_enter Tryz.func29,Tryz.ntmps29
  go_upto_region 2 with fail
  have B0:=(((Below.refl w.heap.size w).alloc (Nat.le_refl _) (.cells #[.string nm,.int .i64 y,.int .i64 mo,.int .i64 d,.int .i64 hh,.int .i64 mi,.int .i64 sx,.string ⟨#[]⟩,.string st] 53)).alloc (by simp) (.cells #[.string ⟨#[]⟩,.int .i64 0,.int .i64 0,.int .i64 0,.int .i64 0,.int .i64 0,.int .i64 0,.int .u64 0,.int .u64 0,.int .u32 0,.int .u64 0,.bool false] 84)).alloc (by simp;omega) (.cells #[.string nm,.int .i64 y,.int .i64 mo,.int .i64 d,.int .i64 hh,.int .i64 mi,.int .i64 sx,.int .u64 0,.int .u64 0,.int .u32 0,.int .u64 pos,.bool true] 84)
  have KB:=((Blk.new w #[.string nm,.int .i64 y,.int .i64 mo,.int .i64 d,.int .i64 hh,.int .i64 mi,.int .i64 sx,.string ⟨#[]⟩,.string st] 53).alloc (.cells #[.string ⟨#[]⟩,.int .i64 0,.int .i64 0,.int .i64 0,.int .i64 0,.int .i64 0,.int .i64 0,.int .u64 0,.int .u64 0,.int .u32 0,.int .u64 0,.bool false] 84)).alloc (.cells #[.string nm,.int .i64 y,.int .i64 mo,.int .i64 d,.int .i64 hh,.int .i64 mi,.int .i64 sx,.int .u64 0,.int .u64 0,.int .u32 0,.int .u64 pos,.bool true] 84)
  have KF:=(Blk.new1 w (.cells #[.string nm,.int .i64 y,.int .i64 mo,.int .i64 d,.int .i64 hh,.int .i64 mi,.int .i64 sx,.string ⟨#[]⟩,.string st] 53) #[.string ⟨#[]⟩,.int .i64 0,.int .i64 0,.int .i64 0,.int .i64 0,.int .i64 0,.int .i64 0,.int .u64 0,.int .u64 0,.int .u32 0,.int .u64 0,.bool false] 84).alloc (.cells #[.string nm,.int .i64 y,.int .i64 mo,.int .i64 d,.int .i64 hh,.int .i64 mi,.int .i64 sx,.int .u64 0,.int .u64 0,.int .u32 0,.int .u64 pos,.bool true] 84)
  have KH:=Blk.new2 w (.cells #[.string nm,.int .i64 y,.int .i64 mo,.int .i64 d,.int .i64 hh,.int .i64 mi,.int .i64 sx,.string ⟨#[]⟩,.string st] 53) (.cells #[.string ⟨#[]⟩,.int .i64 0,.int .i64 0,.int .i64 0,.int .i64 0,.int .i64 0,.int .i64 0,.int .u64 0,.int .u64 0,.int .u32 0,.int .u64 0,.bool false] 84) #[.string nm,.int .i64 y,.int .i64 mo,.int .i64 d,.int .i64 hh,.int .i64 mi,.int .i64 sx,.int .u64 0,.int .u64 0,.int .u32 0,.int .u64 pos,.bool true] 84
  generalize ((w.alloc _).alloc _).alloc _=W at *
  obtain⟨B,hB⟩:∃ B,w.heap.size=B:=⟨_,rfl⟩
  obtain⟨F,hF⟩:∃ F,w.heap.size+1=F:=⟨_,rfl⟩
  obtain⟨H,hH⟩:∃ H,w.heap.size+1+1=H:=⟨_,rfl⟩
  have hH2:w.heap.size+2=H:=hH
  rw[hB]at KB
  rw[hF]at KF
  rw[hH2]at KH
  rw[hB,← hB,hH,hF,hB]
  have c7:=KB.cell 7
  simp only[List.getElem?_toArray,List.getElem?_cons_zero,List.getElem?_cons_succ]at c7
  go_upto_region 4 with fail
  refine wp_region_lit ?_
  refine wpList_load_blk rfl 84 _ rfl H #[.string nm,.int .i64 y,.int .i64 mo,.int .i64 d,.int .i64 hh,.int .i64 mi,.int .i64 sx,.int .u64 0,.int .u64 0,.int .u32 0,.int .u64 pos,.bool true] rfl KH Tryz.underlying84 rfl (by kernel_rfl) ?_
  refine wpList_store_blk rfl 84 _ _ rfl F #[.string nm,.int .i64 y,.int .i64 mo,.int .i64 d,.int .i64 hh,.int .i64 mi,.int .i64 sx,.int .u64 0,.int .u64 0,.int .u32 0,.int .u64 pos,.bool true] rfl rfl KF (by kernel_rfl) rfl (by simp[Value.oneCell']) ?_
  have KR:=setRow_heap W F _ #[.string nm,.int .i64 y,.int .i64 mo,.int .i64 d,.int .i64 hh,.int .i64 mi,.int .i64 sx,.int .u64 0,.int .u64 0,.int .u32 0,.int .u64 pos,.bool true] _ _ KF
  have BR:Below w.heap.size w (W.setRow F #[.string nm,.int .i64 y,.int .i64 mo,.int .i64 d,.int .i64 hh,.int .i64 mi,.int .i64 sx,.int .u64 0,.int .u64 0,.int .u32 0,.int .u64 pos,.bool true]):=⟨B0.os,B0.tape,B0.output,by simpa using B0.size,fun k hk=>(setRow_other W F k _ (by omega)).trans (B0.block k hk)⟩
  generalize W.setRow F _=W2 at *
  go_wp2_with fail
  exact bodyPost_ret (v:=(headR nm ⟨y,mo,d,hh,mi,sx⟩ ⟨#[]⟩ st pos).val) (results_one Tryz.results29 _ _ F 84 _ _ rfl KR Tryz.underlying84 rfl (by kernel_rfl)) rfl ⟨rfl,BR⟩
 ·have eN:=isE da (by omega)
  have q0:decide (da.size=0)=false:=decide_eq_false h0
  obtain⟨cr,hcr⟩:∃ c:Nat,crcP (byN da)=c:=⟨_,rfl⟩
  have hmo:=fun W=>refmore_calls da W h2
  rw[hcr]at hmo
  have HM:=Lib.hid hmo
  have HC:=Lib.hid hcr
  clear hmo hcr
  go_enter Tryz.func29,Tryz.ntmps29
  go_upto_region 2 with fail
  have B0:=(((Below.refl w.heap.size w).alloc (Nat.le_refl _) (.cells #[.string nm,.int .i64 y,.int .i64 mo,.int .i64 d,.int .i64 hh,.int .i64 mi,.int .i64 sx,.string da,.string st] 53)).alloc (by simp) (.cells #[.string ⟨#[]⟩,.int .i64 0,.int .i64 0,.int .i64 0,.int .i64 0,.int .i64 0,.int .i64 0,.int .u64 0,.int .u64 0,.int .u32 0,.int .u64 0,.bool false] 84)).alloc (by simp;omega) (.cells #[.string nm,.int .i64 y,.int .i64 mo,.int .i64 d,.int .i64 hh,.int .i64 mi,.int .i64 sx,.int .u64 0,.int .u64 0,.int .u32 0,.int .u64 pos,.bool false] 84)
  have KB:=((Blk.new w #[.string nm,.int .i64 y,.int .i64 mo,.int .i64 d,.int .i64 hh,.int .i64 mi,.int .i64 sx,.string da,.string st] 53).alloc (.cells #[.string ⟨#[]⟩,.int .i64 0,.int .i64 0,.int .i64 0,.int .i64 0,.int .i64 0,.int .i64 0,.int .u64 0,.int .u64 0,.int .u32 0,.int .u64 0,.bool false] 84)).alloc (.cells #[.string nm,.int .i64 y,.int .i64 mo,.int .i64 d,.int .i64 hh,.int .i64 mi,.int .i64 sx,.int .u64 0,.int .u64 0,.int .u32 0,.int .u64 pos,.bool false] 84)
  have KF:=(Blk.new1 w (.cells #[.string nm,.int .i64 y,.int .i64 mo,.int .i64 d,.int .i64 hh,.int .i64 mi,.int .i64 sx,.string da,.string st] 53) #[.string ⟨#[]⟩,.int .i64 0,.int .i64 0,.int .i64 0,.int .i64 0,.int .i64 0,.int .i64 0,.int .u64 0,.int .u64 0,.int .u32 0,.int .u64 0,.bool false] 84).alloc (.cells #[.string nm,.int .i64 y,.int .i64 mo,.int .i64 d,.int .i64 hh,.int .i64 mi,.int .i64 sx,.int .u64 0,.int .u64 0,.int .u32 0,.int .u64 pos,.bool false] 84)
  have KH:=Blk.new2 w (.cells #[.string nm,.int .i64 y,.int .i64 mo,.int .i64 d,.int .i64 hh,.int .i64 mi,.int .i64 sx,.string da,.string st] 53) (.cells #[.string ⟨#[]⟩,.int .i64 0,.int .i64 0,.int .i64 0,.int .i64 0,.int .i64 0,.int .i64 0,.int .u64 0,.int .u64 0,.int .u32 0,.int .u64 0,.bool false] 84) #[.string nm,.int .i64 y,.int .i64 mo,.int .i64 d,.int .i64 hh,.int .i64 mi,.int .i64 sx,.int .u64 0,.int .u64 0,.int .u32 0,.int .u64 pos,.bool false] 84
  generalize ((w.alloc _).alloc _).alloc _=W at *
  obtain⟨B,hB⟩:∃ B,w.heap.size=B:=⟨_,rfl⟩
  obtain⟨F,hF⟩:∃ F,w.heap.size+1=F:=⟨_,rfl⟩
  obtain⟨H,hH⟩:∃ H,w.heap.size+1+1=H:=⟨_,rfl⟩
  have hH2:w.heap.size+2=H:=hH
  rw[hB]at KB
  rw[hF]at KF
  rw[hH2]at KH
  rw[hB,← hB,hH,hF,hB]
  have hBH:B≠H:=by omega
  have hBW:=KB.lt
  have c7:=KB.cell 7
  simp only[List.getElem?_toArray,List.getElem?_cons_zero,List.getElem?_cons_succ]at c7
  go_upto_region 3 with fail
  obtain⟨U,f,hU,hf⟩:=worldsS (FldP W H 84 #[.string nm,.int .i64 y,.int .i64 mo,.int .i64 d,.int .i64 hh,.int .i64 mi,.int .i64 sx,.int .u64 0,.int .u64 0,.int .u32 0,.int .u64 pos,.bool false] [(12,7,.int .u64 st.size),(14,8,.int .u64 da.size),(16,9,.int .u32 cr)])
  have hne:∃ L X w,FldP W H 84 #[.string nm,.int .i64 y,.int .i64 mo,.int .i64 d,.int .i64 hh,.int .i64 mi,.int .i64 sx,.int .u64 0,.int .u64 0,.int .u32 0,.int .u64 pos,.bool false] [(12,7,.int .u64 st.size),(14,8,.int .u64 da.size),(16,9,.int .u32 cr)] L X w:=⟨_,fun _=>undef,_,fld_start KH⟩
  have HN:Hid (∀ s u w1,Below (f s u).heap.size (f s u) w1→∃ u',w1=f s u'):=Lib.hid (fun s u w1 hb=>hU s w1 (fld_next (hf s u) hb))
  have x7:∀ s u,(f s u).cell? ⟨B,7,none⟩=some (.string da):=fun s u=>(fld_far (a:=⟨B,7,none⟩) (hf s u) hBW hBH).trans c7
  have x8:∀ s u,(f s u).cell? ⟨B,8,none⟩=some (.string st):=fun s u=>(fld_far (a:=⟨B,8,none⟩) (hf s u) hBW hBH).trans (KB.cell 8)
  refine wp_region_all [] (FldP W H 84 #[.string nm,.int .i64 y,.int .i64 mo,.int .i64 d,.int .i64 hh,.int .i64 mi,.int .i64 sx,.int .u64 0,.int .u64 0,.int .u32 0,.int .u64 pos,.bool false] [(12,7,.int .u64 st.size),(14,8,.int .u64 da.size),(16,9,.int .u32 cr)]) (by kernel_rfl) (by kernel_rfl) (fun _=>undef) (fld_start KH) ?_
  iterate 12
   apply all_quiet hne hU hf (fun L X w h=>fld_still h rfl) (by decide) rfl (by simp)
   ·intro s X hn K' hK'
    go_big_quiet_op
    first
     | exact hK'
     | (apply Exists.intro
        refine⟨fun _=>?_,?_⟩
        ·first
         | (go_at_call 48;refine(HM.out _).mono ?_;rintro e w1 ⟨rfl,rfl⟩;exact⟨rfl,HN.out _ _ _ (Below.refl _ _)⟩)
        exact hK')
   ·exact fun _ _=>rfl
  refine all_move undef (by decide) (by simp) (fun X L w hL hP hw K' hK=>?_) (by intro X;simp[Act.put];rfl) ?_
  ·obtain⟨v0,hv0⟩:=fld_there hw (k:=7) (by simp)
   have hfz:=fld_frozen hw 7
   have h7:=hK _ (fld_store rfl rfl hw List.mem_cons_self hL)
   unfold Oper.wp
   go_simp
   exact h7
  iterate 1
   apply all_quiet hne hU hf (fun L X w h=>fld_still h rfl) (by decide) rfl (by simp)
   ·intro s X hn K' hK'
    go_big_quiet_op
    first
     | exact hK'
     | (apply Exists.intro
        refine⟨fun _=>?_,?_⟩
        ·first
         | (go_at_call 48;refine(HM.out _).mono ?_;rintro e w1 ⟨rfl,rfl⟩;exact⟨rfl,HN.out _ _ _ (Below.refl _ _)⟩)
        exact hK')
   ·exact fun _ _=>rfl
  refine all_move undef (by decide) (by simp) (fun X L w hL hP hw K' hK=>?_) (by intro X;simp[Act.put];rfl) ?_
  ·obtain⟨v0,hv0⟩:=fld_there hw (k:=8) (by simp)
   have hfz:=fld_frozen hw 8
   have h7:=hK _ (fld_store rfl rfl hw (List.mem_cons_of_mem _ List.mem_cons_self) hL)
   unfold Oper.wp
   go_simp
   exact h7
  iterate 1
   apply all_quiet hne hU hf (fun L X w h=>fld_still h rfl) (by decide) rfl (by simp)
   ·intro s X hn K' hK'
    go_big_quiet_op
    first
     | exact hK'
     | (apply Exists.intro
        refine⟨fun _=>?_,?_⟩
        ·first
         | (go_at_call 48;refine(HM.out _).mono ?_;rintro e w1 ⟨rfl,rfl⟩;exact⟨rfl,HN.out _ _ _ (Below.refl _ _)⟩)
        exact hK')
   ·exact fun _ _=>rfl
  refine all_move undef (by decide) (by simp) (fun X L w hL hP hw K' hK=>?_) (by intro X;simp[Act.put];rfl) ?_
  ·obtain⟨v0,hv0⟩:=fld_there hw (k:=9) (by simp)
   have hfz:=fld_frozen hw 9
   have h7:=hK _ (fld_store rfl rfl hw (List.mem_cons_of_mem _ (List.mem_cons_of_mem _ List.mem_cons_self)) hL)
   unfold Oper.wp
   go_simp
   exact h7
  refine all_nil ?_
  intro X L wx hall hw
  have KH2:wx.heap[H]?=some (.cells #[.string nm,.int .i64 y,.int .i64 mo,.int .i64 d,.int .i64 hh,.int .i64 mi,.int .i64 sx,.int .u64 st.size,.int .u64 da.size,.int .u32 cr,.int .u64 pos,.bool false] 84 (0,0)):=by
   have h:=hw.blk
   have l1:=hall 12 (by decide)
   have l2:=hall 14 (by decide)
   have l3:=hall 16 (by decide)
   rw[fldC,fldC,fldC,fldC,if_pos l1,if_pos l2,if_pos l3]at h
   simpa using h
  have KF2:wx.heap[F]?=_:=(hw.block F KF.lt (by omega)).trans KF
  have B2:Below w.heap.size w wx:=⟨hw.os.trans B0.os,hw.tape.trans B0.tape,hw.output.trans B0.output,Nat.le_trans B0.size hw.size,fun k hk=>(hw.block k (Nat.lt_of_lt_of_le hk B0.size) (by omega)).trans (B0.block k hk)⟩
  have HB2:=Lib.hid B2
  have HK2:=Lib.hid (And.intro KH2 KF2)
  clear hw hall KH2 KF2 B2 KH KF KB B0 x7 x8 hU hf hne
  go_upto_region 4 with fail
  refine wp_region_lit ?_
  refine wpList_load_blk rfl 84 _ rfl H #[.string nm,.int .i64 y,.int .i64 mo,.int .i64 d,.int .i64 hh,.int .i64 mi,.int .i64 sx,.int .u64 st.size,.int .u64 da.size,.int .u32 cr,.int .u64 pos,.bool false] rfl HK2.out.1 Tryz.underlying84 rfl (by kernel_rfl) ?_
  refine wpList_store_blk rfl 84 _ _ rfl F #[.string nm,.int .i64 y,.int .i64 mo,.int .i64 d,.int .i64 hh,.int .i64 mi,.int .i64 sx,.int .u64 st.size,.int .u64 da.size,.int .u32 cr,.int .u64 pos,.bool false] rfl rfl HK2.out.2 (by kernel_rfl) rfl (by simp[Value.oneCell']) ?_
  have KR:=setRow_heap wx F _ #[.string nm,.int .i64 y,.int .i64 mo,.int .i64 d,.int .i64 hh,.int .i64 mi,.int .i64 sx,.int .u64 st.size,.int .u64 da.size,.int .u32 cr,.int .u64 pos,.bool false] _ _ HK2.out.2
  have BR:Below w.heap.size w (wx.setRow F #[.string nm,.int .i64 y,.int .i64 mo,.int .i64 d,.int .i64 hh,.int .i64 mi,.int .i64 sx,.int .u64 st.size,.int .u64 da.size,.int .u32 cr,.int .u64 pos,.bool false]):=⟨HB2.out.os,HB2.out.tape,HB2.out.output,by simpa using HB2.out.size,fun k hk=>(setRow_other wx F k _ (by omega)).trans (HB2.out.block k hk)⟩
  generalize wx.setRow F _=W2 at *
  go_wp2_with fail
  have hv:(headR nm ⟨y,mo,d,hh,mi,sx⟩ da st pos).val= .agg #[.string nm,.int .i64 y,.int .i64 mo,.int .i64 d,.int .i64 hh,.int .i64 mi,.int .i64 sx,.int .u64 st.size,.int .u64 da.size,.int .u32 cr,.int .u64 pos,.bool false]:=by unfold headR Hd.val;simp only;rw[if_neg h0,if_neg h0,HC.out,q0]
  exact bodyPost_ret (v:= .agg #[.string nm,.int .i64 y,.int .i64 mo,.int .i64 d,.int .i64 hh,.int .i64 mi,.int .i64 sx,.int .u64 st.size,.int .u64 da.size,.int .u32 cr,.int .u64 pos,.bool false]) (results_one Tryz.results29 _ _ F 84 _ _ rfl KR Tryz.underlying84 rfl (by kernel_rfl)) rfl ⟨by rw[hv],BR⟩
end Go.Proofs.YtgiogemkomgkhaaGreatDoor.Ar
