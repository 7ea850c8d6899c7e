/-
  block.Write, of the kind Stored.
-/
import Derived.Test.YtgiogemkomgkhaaGreatDoorKBkD
import Derived.Test.YtgiogemkomgkhaaGreatDoorKBwAdd
import Derived.Test.YtgiogemkomgkhaaGreatDoorKZpP
set_option linter.unusedVariables false
set_option linter.unusedSimpArgs false
namespace Go.Proofs.YtgiogemkomgkhaaGreatDoor.Bk
open Go.RowKit Go.Shelf Mg Bw Ri
set_option maxRecDepth 100000 in
theorem lengthsof_calls (b g:Nat) (ls:List Int) (w:World) (h:CanonAt w b g ls) (hl:ls.length≤288) :
  Calls Tryz.prog 122 #[.pointer (some ⟨g,0,none⟩)] w fun e w'=>∃ gl cap,e= .returned (.slice (some ⟨gl,0,none⟩) ls.length cap)∧w.heap.size≤gl∧Reads w' (some ⟨gl,0,none⟩) ls∧(∃ cur,w'.heap[gl]?=some (.cells cur 3 (0,0)))∧Below w.heap.size w w':=by
 obtain⟨gl,cap,Wb,sv,f,hc, -, -,hr, -⟩:=h.ex
 obtain⟨x0,x1,x18, -⟩:=hc.cell
 have HC:=Lib.hid (clonex_calls gl 0 ls.length cap ls w rfl hl (fun j hj=>by rw[Nat.zero_add];exact hr j hj))
 clear hc hr h x1 x18
 generalize ls.length=n at *
 go_enter Tryz.func122,Tryz.ntmps122
 go_wp2_with fail
 refine HC.out.mono ?_
 rintro e w1 ⟨g2,c2,rfl,h1,h2,h3,h4,h5,h6⟩
 have H1:=Lib.hid (⟨h1,h3,h4,h6⟩:_∧_∧_∧_)
 clear h1 h2 h3 h4 h5 h6
 go_wp2
 go_ret
 exact⟨g2,c2,rfl,H1.out.1,H1.out.2.1,H1.out.2.2.1,H1.out.2.2.2⟩
theorem rd_wrote {B o base:Nat} {v v':Value} {w W:World} {bs:List Bool} {T:TypeId} {size n g c:Nat} {xs:List Value} (h:Wrote B o v w v' W) (hw:WAt w base B o v bs) (hr:Rd w T size (.slice (some ⟨g,0,none⟩) n c) n xs) (hB:g≠B) (hT:T≠5):Rd W T size (.slice (some ⟨g,0,none⟩) n c) n xs:=by
 obtain⟨h1,g',o',c',cur,fr,h2,h3,h4,h5⟩:=hr
 cases h2
 exact⟨h1,g,0,c,cur,fr,rfl,h3,wrote_block h hw h4 hB hT,h5⟩
theorem dyn_wrote {B o base b g:Nat} {v v':Value} {w W:World} {bs:List Bool} {ts:List Tok} (h:Wrote B o v w v' W) (hw:WAt w base B o v bs) (hB:B<b) (hd:DynAt w b g ts):DynAt W b g ts:=by
 obtain⟨gs,gd,gt,gT,cT,h1,h2,h3,h4,h5,h6,h7⟩:=hd.ex
 exact⟨gs,gd,gt,gT,cT,wrote_block h hw h1 (by omega) (by decide),wrote_canon h hw hB h2,wrote_canon h hw hB h3,wrote_canon h hw hB h4,rd_wrote h hw h5 (by omega) (by decide),h6,h7⟩
theorem ord_wrote {B o base:Nat} {v v':Value} {w W:World} {bs:List Bool} (h:Wrote B o v w v' W) (hw:WAt w base B o v bs) (hO:OrdT w) (h1:4<base) (h2:4≠B):OrdT W:=by
 obtain⟨cs,t,fr,h3,h4⟩:=hO
 exact⟨cs,t,fr,(h.block _ (Array.getElem?_eq_some_iff.1 h3).1 h2 (fun e=>by have:=(hw.ge.2.1 _ e).1;omega)).trans h3,h4⟩
def headN (a d c:Nat):Nat:=(a - 257)+(d - 1)*32+(c - 4)*1024
def tellB (z:List Int) (i:Nat):List Bool:=bitsN 3 (z.getD (ordT.getD i 0) 0).toNat
def tellsB (z:List Int) (c:Nat):List Bool:=(List.range c).flatMap (tellB z)
def exB (z:List Int) (x:Ex):List Bool:=wordB z x.sym.toNat++bitsN x.bits x.val
def exsB (z:List Int) (l:List Ex):List Bool:=l.flatMap (exB z)
def headB (ts:List Tok):List Bool:=bitsN 14 (headN (lsD ts).length (dsD ts).length (tellC (tellD ts)))++tellsB (tellD ts) (tellC (tellD ts))++exsB (tellD ts) (toldD ts)
theorem tellsB_succ (z:List Int) (k:Nat):tellsB z (k+1)=tellsB z k++tellB z k:=by
 unfold tellsB
 rw[List.range_succ,List.flatMap_append]
 simp
theorem exsB_take (z:List Int) (l:List Ex) (k:Nat) (h:k<l.length):exsB z (l.take (k+1))=exsB z (l.take k)++exB z l[k]:=by
 rw[List.take_succ_eq_append_getElem h]
 unfold exsB
 rw[List.flatMap_append]
 simp
theorem tellsB_len (z:List Int):∀ k,(tellsB z k).length=3*k
 | 0=>rfl
 | k+1=>by
  rw[tellsB_succ,List.length_append,tellsB_len z k]
  unfold tellB
  rw[bitsN_len]
  omega
theorem exsB_len (z:List Int):∀ l:List Ex,(∀ x∈l,exOk x)→(exsB z l).length≤22*l.length
 | [],_=>Nat.le_refl _
 | x::l,h=>by
  have ih:=exsB_len z l (fun y hy=>h y (List.mem_cons_of_mem _ hy))
  have h1:=wordB_le z x.sym.toNat
  have h2:=(h x List.mem_cons_self).2.2.1
  have e:exsB z (x::l)=exB z x++exsB z l:=by simp[exsB]
  rw[e,List.length_append,List.length_cons]
  unfold exB
  rw[List.length_append,bitsN_len]
  omega
theorem or_nat (x y:Nat) (hx:x<18446744073709551616) (hy:y<18446744073709551616):Go.bits .or .u64 (x:Int) (y:Int)=((x ||| y:Nat):Int):=by
 have e:Go.bits .or .u64 (x:Int) (y:Int)=IntKind.u64.wrap ((BitVec.ofInt 64 (x:Int) ||| BitVec.ofInt 64 (y:Int)).toNat:Int):=rfl
 have hlt:x ||| y<2 ^ 64:=Nat.or_lt_two_pow (by omega) (by omega)
 rw[e,BitVec.toNat_or]
 have b1:(BitVec.ofInt 64 (x:Int)).toNat=x:=by simp only[BitVec.toNat_ofInt];omega
 have b2:(BitVec.ofInt 64 (y:Int)).toNat=y:=by simp only[BitVec.toNat_ofInt];omega
 rw[b1,b2,IntKind.wrap_u64]
 omega
theorem head_eq (a d c:Nat) (h1:257≤a∧a≤286) (h2:1≤d∧d≤30) (h3:4≤c∧c≤19) :
  Go.bits .or .u64 (Go.bits .or .u64 ((a:Int) - 257) (((d:Int) - 1)*32)) (((c:Int) - 4)*1024)=((headN a d c:Nat):Int):=by
 have e1:(a:Int) - 257=((a - 257:Nat):Int):=by omega
 have e2:((d:Int) - 1)*32=(((d - 1)*2 ^ 5:Nat):Int):=by omega
 have e3:((c:Int) - 4)*1024=(((c - 4)*2 ^ 10:Nat):Int):=by omega
 have k1:(a - 257) ||| ((d - 1)*2 ^ 5)=(a - 257)+(d - 1)*2 ^ 5:=nat_or_add _ _ _ (by omega)
 have k2:((a - 257)+(d - 1)*2 ^ 5) ||| ((c - 4)*2 ^ 10)=(a - 257)+(d - 1)*2 ^ 5+(c - 4)*2 ^ 10:=nat_or_add _ _ _ (by omega)
 rw[e1,e2,e3,or_nat _ _ (by omega) (by omega),k1,or_nat _ _ (by omega) (by omega),k2]
 unfold headN
 rfl
set_option maxHeartbeats 8000000 in
set_option maxRecDepth 100000 in
theorem head_calls (b g base B o:Nat) (v:Value) (bs:List Bool) (ts:List Tok) (w:World) (hd:DynAt w b g ts) (hw:WAt w base B o v bs) (hB:B<b) (hn:ts.length≤1000000) (hO:OrdT w) (hO1:4<base) (hO2:4≠B) (hbs:bs.length≤100000000000) :
  Calls Tryz.prog 96 #[.pointer (some ⟨g,0,none⟩),.pointer (some ⟨B,o,none⟩)] w fun e w'=>e= .returned (.tuple #[])∧∃ v',WAt w' base B o v' (bs++headB ts)∧Wrote B o v w v' w':=by
 obtain⟨gs,gd,gt,gT,cT,hg, -, -,hct,hrT,hbg,hbT⟩:=hd.ex
 have hl1:=lsD_len ts
 have hl2:=dsD_len ts
 have hc4:=tellGo_ge (tellD ts) 19 (by omega)
 have hc19:=tellGo_le (tellD ts) 19
 have HTO:=Lib.hid (told_ok ts hn)
 have HZL:=Lib.hid (tellD_len ts)
 have HZI:=Lib.hid (tellD_in ts hn)
 have HLB:Hid (∀ k,(exsB (tellD ts) ((toldD ts).take k)).length≤22*316):=Lib.hid (fun k=>by
  have h1:=exsB_len (tellD ts) ((toldD ts).take k) (fun x hx=>HTO.out.1 x (List.mem_of_mem_take hx))
  have h2:((toldD ts).take k).length≤316:=Nat.le_trans (by rw[List.length_take];exact Nat.min_le_right _ _) HTO.out.2.1
  omega)
 obtain⟨a,ha⟩:∃ a,(lsD ts).length=a:=⟨_,rfl⟩
 obtain⟨d,hd2⟩:∃ d,(dsD ts).length=d:=⟨_,rfl⟩
 obtain⟨c,hcc⟩:∃ c,tellC (tellD ts)=c:=⟨_,rfl⟩
 obtain⟨nT,hnT⟩:∃ nT,(toldD ts).length=nT:=⟨_,rfl⟩
 have hHB:headB ts=bitsN 14 (headN a d c)++tellsB (tellD ts) c++exsB (tellD ts) (toldD ts):=by unfold headB;rw[ha,hd2,hcc]
 rw[hHB]
 have hcc':tellGo (tellD ts) 19=c:=hcc
 rw[hcc']at hc4 hc19
 have ha1:257≤a∧a≤286:=by omega
 have hd1:1≤d∧d≤30:=by omega
 have hnT1:nT≤316:=by rw[← hnT];exact HTO.out.2.1
 rw[ha,hd2,hcc,hnT]at hg
 rw[hnT]at hrT
 have HNT:=Lib.hid hnT
 have HHE:=Lib.hid (head_eq a d c ha1 hd1 ⟨hc4,hc19⟩)
 have hhl:headN a d c<18446744073709551616:=by unfold headN;omega
 obtain⟨N,hN⟩:∃ N,headN a d c=N:=⟨_,rfl⟩
 rw[hN]at hhl HHE ⊢
 clear hcc hcc' ha hd2 hnT hHB hl1 hl2 hN
 have HW0:=Lib.hid hw
 have R0:=Lib.hid (Wrote.refl B o v w)
 have HGW:Hid (∀ W v',Wrote B o v w v' W→W.heap[g]?=some (.cells #[.pointer (some ⟨gs,0,none⟩),.pointer (some ⟨gd,0,none⟩),.pointer (some ⟨gt,0,none⟩),.slice (some ⟨gT,0,none⟩) nT cT,.int .i64 a,.int .i64 d,.int .i64 c] 183 (0,0))):=Lib.hid (fun W v' h=>wrote_block h hw hg (by omega) (by decide))
 have HCT:Hid (∀ W v',Wrote B o v w v' W→CanonAt W b gt (tellD ts)):=Lib.hid (fun W v' h=>wrote_canon h hw hB hct)
 have HRT:Hid (∀ W v',Wrote B o v w v' W→Rd W 188 3 (.slice (some ⟨gT,0,none⟩) nT cT) nT (exsC (toldD ts))):=Lib.hid (fun W v' h=>rd_wrote h hw hrT (by omega) (by decide))
 have HOW:Hid (∀ W v',Wrote B o v w v' W→OrdT W):=Lib.hid (fun W v' h=>ord_wrote h hw hO hO1 hO2)
 obtain⟨k4,l4⟩:=cell_at hg 4 _ rfl
 obtain⟨k5,l5⟩:=cell_at hg 5 _ rfl
 obtain⟨k6,l6⟩:=cell_at hg 6 _ rfl
 clear hct hrT hO hw hd hg l4 l5 l6
 have a1:(257:Int)≤(a:Int):=by omega
 have a2:(a:Int)≤286:=by omega
 have d1:(1:Int)≤(d:Int):=by omega
 have d2:(d:Int)≤30:=by omega
 have c1:(4:Int)≤(c:Int):=by omega
 have c2:(c:Int)≤19:=by omega
 go_enter Tryz.func96,Tryz.ntmps96
 go_upto_region 0 with fail
 go_still_tail 23,(by kernel_rfl)
 change wpList _ _ _ _ _ w.drew
 have HW1:Hid (WAt w.drew base B o v bs):=Lib.hid (HW0.out.drewN 1)
 have HR1:Hid (Wrote B o v w v w.drew):=Lib.hid (R0.out.drewN 1)
 have HCW:=Lib.hid (write_any base B o v bs N 14 w.drew HW1.out hhl (by omega) (by omega))
 generalize w.drew=w1 at *
 go_wp2_with fail
 rw[HHE.out]
 refine HCW.out.mono ?_
 rintro e w2 ⟨rfl,v2,r1,r2⟩
 have HW2:=Lib.hid r1
 have HR2:=Lib.hid (HR1.out.trans r2)
 clear r1 r2 HW1 HR1 HCW k4 k5 k6
 obtain⟨t2,_⟩:=cell_at (HGW.out _ _ HR2.out) 2 _ rfl
 have HLC:=Lib.hid (lengthsof_calls b gt (tellD ts) w2 (HCT.out _ _ HR2.out) (by rw[HZL.out];decide))
 rw[HZL.out]at HLC
 go_wp2_with fail
 refine HLC.out.mono ?_
 rintro e w3 ⟨gl,cl,rfl,hgl,hrl,⟨cur,htl⟩,hbl⟩
 have HW3:=Lib.hid (wat_below HW2.out hbl)
 have HR3:=Lib.hid (wrote_grow HR2.out HW2.out.Bt hbl)
 have hglB:gl≠B:=by have:=HW2.out.Bt;omega
 have HL3:Hid (∀ W v',Wrote B o v2 w3 v' W→Reads W (some ⟨gl,0,none⟩) (tellD ts)):=Lib.hid (fun W v' h j hj=>by
  obtain⟨g',o',e,hc⟩:=hrl j hj
  cases e
  have h1:=wrote_block h HW3.out htl hglB (by decide)
  have h2:W.heap[gl]?=w3.heap[gl]?:=h1.trans htl.symm
  exact⟨gl,0,rfl,(World.cell?_of_block (a:=⟨gl,0+j,none⟩) h2).trans hc⟩)
 have R3:=Lib.hid (Wrote.refl B o v2 w3)
 clear hbl hrl htl hgl HLC t2 HW2 HR2
 obtain⟨t6,_⟩:=cell_at (HGW.out _ _ HR3.out) 6 _ rfl
 go_wp2_with fail
 have hbase:bs++bitsN 14 N++tellsB (tellD ts) 0=bs++bitsN 14 N:=by simp[tellsB]
 have HBA:=Lib.hid hbase
 clear hbase t6
 go_loopw [44] (fun vi wr=>∃ (i:Nat) (v1:Value),i≤c∧vi= .int .i64 i∧WAt wr base B o v1 (bs++bitsN 14 N++tellsB (tellD ts) i)∧Wrote B o v2 w3 v1 wr) (fun vi _=>c - (intOf vi).toNat)
 case atStart=>exact⟨0,v2,Nat.zero_le _,rfl,by rw[HBA.out];exact HW3.out,R3.out⟩
 case round =>
  obtain⟨i,v1,hi,rfl,hwa,hwr⟩:=hrel
  have HWA:=Lib.hid hwa
  have HWR:=Lib.hid hwr
  clear hwa hwr
  by_cases hlt:i<c
  ·have p1:decide ((i:Int)<(c:Int))=true:=decide_eq_true (by omega)
   have p1':decide (i<c)=true:=decide_eq_true hlt
   have hoc:=(HOW.out _ _ (HR3.out.trans HWR.out)).cell i (by omega)
   have hos:=ordT_lt i (by omega)
   obtain⟨os,hos2⟩:∃ os,ordT.getD i 0=os:=⟨_,rfl⟩
   rw[hos2]at hoc hos
   have hzl:os<(tellD ts).length:=by rw[HZL.out];exact hos
   obtain⟨g',o',e',hzc⟩:=HL3.out _ _ HWR.out os hzl
   cases e'
   rw[Nat.zero_add]at hzc
   have hzd:(tellD ts).getD os 0=(tellD ts)[os]:=getD_of hzl
   have hz07:=HZI.out _ (List.getElem_mem hzl)
   obtain⟨y,hy⟩:∃ y,(tellD ts)[os]=y:=⟨_,rfl⟩
   rw[hy]at hzc hzd hz07
   obtain⟨yn,rfl⟩:∃ yn:Nat,y=(yn:Int):=⟨y.toNat,by omega⟩
   have HTB:Hid (tellB (tellD ts) i=bitsN 3 yn):=Lib.hid (by unfold tellB;rw[hos2,hzd,Int.toNat_natCast])
   have HTS:=Lib.hid (tellsB_succ (tellD ts) i)
   have htl2:=tellsB_len (tellD ts) i
   have HCW:=Lib.hid (write_any base B o v1 (bs++bitsN 14 N++tellsB (tellD ts) i) yn 3 wr HWA.out (by omega) (by omega) (by rw[List.length_append,List.length_append,bitsN_len,htl2];omega))
   have o0:(0:Int)≤(os:Int):=by omega
   have o1:(os:Int)<19:=by omega
   have y1:(yn:Int)≤7:=by omega
   clear hy hzd hos2 htl2
   go_wp2_with fail
   refine HCW.out.mono ?_
   rintro e w5 ⟨rfl,v5,r1,r2⟩
   have HW5:Hid (WAt w5 base B o v5 (bs++bitsN 14 N++tellsB (tellD ts) (i+1))):=Lib.hid (by rw[HTS.out,HTB.out,← List.append_assoc];exact r1)
   have HR5:=Lib.hid (HWR.out.trans r2)
   clear r1 r2 HCW hoc hzc
   go_wp2
   go_roundw
   case rel=>exact⟨i+1,v5,by omega,by go_num,HW5.out,HR5.out⟩
   case measure=>simp[intOf];omega
  ·obtain rfl:i=c:=by omega
   have p1:decide ((i:Int)<(i:Int))=false:=decide_eq_false (by omega)
   have HR6:=Lib.hid (HR3.out.trans HWR.out)
   have htl2:=tellsB_len (tellD ts) i
   obtain⟨bs2,hbs2⟩:∃ b,bs++bitsN 14 N++tellsB (tellD ts) i=b:=⟨_,rfl⟩
   have hb2l:bs2.length≤100000000100:=by rw[← hbs2,List.length_append,List.length_append,bitsN_len,htl2];omega
   rw[hbs2]at HWA
   have HBS:=Lib.hid hbs2
   obtain⟨t3,_⟩:=cell_at (HGW.out _ _ HR6.out) 3 _ rfl
   clear hbs2 htl2 HL3 R3 HR3 HW3 HWR
   go_wp2_with fail
   clear t3
   go_loopw [61] (fun vi wx=>∃ (k:Nat) (v1:Value),k≤nT∧vi= .int .i64 k∧WAt wx base B o v1 (bs2++exsB (tellD ts) ((toldD ts).take k))∧Wrote B o v w v1 wx) (fun vi _=>nT - (intOf vi).toNat)
   case atStart=>exact⟨0,_,Nat.zero_le _,rfl,by simpa[exsB] using HWA.out,HR6.out⟩
   case round =>
    obtain⟨k,v7,hk,rfl,hwa,hwr⟩:=hrel
    have HWB:=Lib.hid hwa
    have HWR:=Lib.hid hwr
    clear hwa hwr
    by_cases hlt:k<nT
    ·have p2:decide ((k:Int)<(nT:Int))=true:=decide_eq_true (by omega)
     have p2':decide (k<nT)=true:=decide_eq_true hlt
     have k1:k<(toldD ts).length:=by rw[HNT.out];exact hlt
     have HEX:=Lib.hid (exsB_take (tellD ts) (toldD ts) k k1)
     have hok:=HTO.out.1 (toldD ts)[k] (List.getElem_mem k1)
     have hel:=HLB.out k
     obtain⟨h1,h2,h3⟩:=exs_cells (HRT.out _ _ HWR.out) k k1
     obtain⟨x,hx⟩:∃ x,(toldD ts)[k]=x:=⟨_,rfl⟩
     rw[hx]at h1 h2 h3 HEX hok
     obtain⟨xs,xb,xv⟩:=x
     obtain⟨ho0,ho18,hob,hov⟩:=hok
     simp only at h1 h2 h3 ho0 ho18 hob hov
     obtain⟨s,rfl⟩:∃ s:Nat,xs=(s:Int):=⟨xs.toNat,by omega⟩
     have HEX2:Hid (exB (tellD ts) ⟨(s:Int),xb,xv⟩=wordB (tellD ts) s++bitsN xb xv):=Lib.hid (by unfold exB;simp only[Int.toNat_natCast])
     have hsl:s<(tellD ts).length:=by rw[HZL.out];omega
     obtain⟨bs3,hbs3⟩:∃ b,bs2++exsB (tellD ts) ((toldD ts).take k)=b:=⟨_,rfl⟩
     have hb3l:bs3.length≤100000010000:=by rw[← hbs3,List.length_append];omega
     rw[hbs3]at HWB
     have HB3:Hid (bs2++exsB (tellD ts) ((toldD ts).take (k+1))=bs3++wordB (tellD ts) s++bitsN xb xv):=Lib.hid (by rw[HEX.out,HEX2.out,← List.append_assoc,hbs3,List.append_assoc])
     have hwl:=wordB_le (tellD ts) s
     clear hx hbs3 hel
     go_upto_region 10 with fail
     obtain⟨K,hK⟩:∃ K,wr.heap.size=K:=⟨_,rfl⟩
     obtain⟨W1,hW1⟩:∃ W1,wr.alloc (.cells #[.int .i64 s,.int .i64 (xb:Int),.int .u64 (xv:Int)] 188)=W1:=⟨_,rfl⟩
     have hbl:Below wr.heap.size wr W1:=by rw[← hW1];exact(Below.refl _ _).alloc (Nat.le_refl _) _
     have hKc:W1.heap[K]?=some (.cells #[.int .i64 s,.int .i64 (xb:Int),.int .u64 (xv:Int)] 188 (0,0)):=by rw[← hW1,← hK];exact World.alloc_heap_new _ _
     have hKB:K≠B:=by have:=HWB.out.Bt;omega
     rw[hW1,hK]
     have HW8:=Lib.hid (wat_below HWB.out hbl)
     have HR8:=Lib.hid (wrote_grow HWR.out HWB.out.Bt hbl)
     obtain⟨e0,_⟩:=cell_at hKc 0 _ rfl
     obtain⟨t2,_⟩:=cell_at (HGW.out _ _ HR8.out) 2 _ rfl
     have HKc:=Lib.hid hKc
     clear hW1 hK h1 h2 h3 hbl hKc
     go_still_tail 7,(by kernel_rfl)
     change wpList _ _ _ _ _ (World.drew _)
     have HW9:=Lib.hid (HW8.out.drewN 1)
     have HR9:=Lib.hid (HR8.out.drewN 1)
     have HCW:=Lib.hid (codewrite_calls b gt s base B o v7 bs3 (tellD ts) _ (HCT.out _ _ HR9.out) HW9.out hsl (by rw[HZL.out];decide) (by omega))
     go_wp2_with fail
     refine HCW.out.mono ?_
     rintro e w10 ⟨rfl,v10,r1,r2⟩
     have H10:=Lib.hid (wrote_block r2 HW9.out (show(World.drew _).heap[K]?=_ from HKc.out) hKB (by decide))
     have HW10:=Lib.hid r1
     have HR10:=Lib.hid (HR9.out.trans r2)
     clear r1 r2 e0 t2 HCW HW9 HR9 HW8 HR8 HKc
     obtain⟨e1,_⟩:=cell_at H10.out 1 _ rfl
     obtain⟨e2,_⟩:=cell_at H10.out 2 _ rfl
     have HCW:=Lib.hid (write_any base B o v10 (bs3++wordB (tellD ts) s) xv xb _ HW10.out (by omega) (by omega) (by rw[List.length_append];omega))
     go_wp2_with fail
     refine HCW.out.mono ?_
     rintro e w11 ⟨rfl,v11,r1,r2⟩
     have HW11:Hid (WAt w11 base B o v11 (bs2++exsB (tellD ts) ((toldD ts).take (k+1)))):=Lib.hid (by rw[HB3.out];exact r1)
     have HR11:=Lib.hid (HR10.out.trans r2)
     clear r1 r2 e1 e2 HCW
     go_wp2
     go_roundw
     case rel=>exact⟨k+1,v11,by omega,by go_num,HW11.out,HR11.out⟩
     case measure=>simp[intOf];omega
    ·obtain rfl:k=nT:=by omega
     have p2:decide ((k:Int)<(k:Int))=false:=decide_eq_false (by omega)
     have HFin:Hid (bs2++exsB (tellD ts) ((toldD ts).take k)=bs++(bitsN 14 N++tellsB (tellD ts) i++exsB (tellD ts) (toldD ts))):=Lib.hid (by
      rw[List.take_of_length_le (by rw[HNT.out];exact Nat.le_refl _),← HBS.out]
      simp only[List.append_assoc])
     go_wp2
     go_end0
     exact⟨rfl,v7,by rw[← HFin.out];exact HWB.out,HWR.out⟩
end Go.Proofs.YtgiogemkomgkhaaGreatDoor.Bk
namespace Go.Proofs.YtgiogemkomgkhaaGreatDoor.Bk
open Go.RowKit Go.Shelf Mg Bw Ri
theorem tok_in {t:Tok} (h:goodT t=true) (hb:0≤t.b∧t.b<256):tokIn t:=by
 unfold goodT at h
 split at h
 ·rename_i h0
  exact .inl ⟨h0,hb.1,hb.2⟩
 ·simp only[Bool.and_eq_true,decide_eq_true_eq]at h
  exact .inr ⟨h.1.1.1.2,h.1.1.2,h.1.2,h.2⟩
theorem tok_fix {t:Tok} (h:tokIn t):tokOk fixL fixD t:=by
 rcases h with h|h
 ·exact .inl h
 ·refine .inr ⟨h.1,h.2.1,h.2.2.1,h.2.2.2,?_,?_⟩
  ·have:=lenD_lt t.len.toNat
   rw[fixL_len]
   omega
  ·have:=dstD_lt t.dist.toNat
   show _<(List.replicate 32 (5:Int)).length
   rw[List.length_replicate]
   omega
theorem cntS_pos (ts:List Tok) (t:Tok) (ht:t∈ts):(t.len=0→0≤t.b→t.b<256→0<(cntS ts).getD t.b.toNat 0)∧(t.len≠0→0<(cntS ts).getD (257+lenD t.len.toNat) 0):=by
 obtain⟨a,b,rfl⟩:=List.append_of_mem ht
 unfold cntS
 rw[List.foldl_append,List.foldl_cons]
 have hl:(a.foldl stepS ((List.replicate 286 0).set 256 1)).length=286:=(foldS_len a _).trans (by rw[List.length_set,List.length_replicate])
 have hin:=foldS_in a ((List.replicate 286 0).set 256 1) 1 (by omega) (by
  intro y hy
  rcases List.mem_or_eq_of_mem_set hy with h|h
  ·have:=List.eq_of_mem_replicate h;omega
  ·omega)
 generalize a.foldl stepS ((List.replicate 286 0).set 256 1)=o at *
 have key:∀ s,s<286→0<(bumpI o s).getD s 0:=fun s hs=>by
  unfold bumpI
  have h1:s<o.length:=by omega
  have h2:s<(o.set s (o.getD s 0+1)).length:=by rw[List.length_set];exact h1
  rw[getD_of h2,List.getElem_set,if_pos rfl,getD_of h1]
  have:=(hin _ (List.getElem_mem h1)).1
  omega
 have hm:=foldS_mono
 refine⟨fun h0 h1 h2=>?_,fun h0=>?_⟩
 ·refine Int.lt_of_lt_of_le ?_ (foldS_mono _ b _ _ (by omega) (stepS_in hin (by omega) t))
  unfold stepS
  rw[if_pos h0]
  exact key _ (by omega)
 ·refine Int.lt_of_lt_of_le ?_ (foldS_mono _ b _ _ (by omega) (stepS_in hin (by omega) t))
  unfold stepS
  rw[if_neg h0]
  exact key _ (by have:=lenD_lt t.len.toNat;omega)
theorem foldD_mono (s:Nat):∀ (ts:List Tok) (o:List Int) (M:Int),0≤M→InB M o→o.getD s 0≤(ts.foldl stepD o).getD s 0
 | [],_,_,_,_=>Int.le_refl _
 | t::ts,o,M,hM,h=>by
  refine Int.le_trans ?_ (foldD_mono s ts _ (M+1) (by omega) (stepD_in h hM t))
  unfold stepD
  split
  ·exact Int.le_refl _
  ·exact bumpI_get o _ s (inB_pos h)
theorem cntD_pos (ts:List Tok) (t:Tok) (ht:t∈ts) (h0:t.len≠0):0<(cntD ts).getD (dstD t.dist.toNat) 0:=by
 obtain⟨a,b,rfl⟩:=List.append_of_mem ht
 unfold cntD
 rw[List.foldl_append,List.foldl_cons]
 have hl:(a.foldl stepD (List.replicate 30 0)).length=30:=(foldD_len a _).trans (by rw[List.length_replicate])
 have hin:=foldD_in a (List.replicate 30 0) 0 (by omega) (by
  intro y hy
  have:=List.eq_of_mem_replicate hy
  omega)
 generalize a.foldl stepD (List.replicate 30 0)=o at *
 refine Int.lt_of_lt_of_le ?_ (foldD_mono _ b _ _ (by omega) (stepD_in hin (by omega) t))
 unfold stepD
 rw[if_neg h0]
 have h1:dstD t.dist.toNat<o.length:=by have:=dstD_lt t.dist.toNat;omega
 unfold bumpI
 have h2:dstD t.dist.toNat<(o.set (dstD t.dist.toNat) (o.getD (dstD t.dist.toNat) 0+1)).length:=by rw[List.length_set];exact h1
 rw[getD_of h2,List.getElem_set,if_pos rfl,getD_of h1]
 have:=(hin _ (List.getElem_mem h1)).1
 omega
theorem take_get {l:List Int} {k s:Nat} (h:s<k):(l.take k).getD s 0=l.getD s 0:=by
 simp only[List.getD,List.getElem?_take,if_pos h]
theorem lsD_pos (ts:List Tok) (hn:ts.length≤1000000) (s:Nat) (hs:s<286) (hp:0<(cntS ts).getD s 0):s<(lsD ts).length∧0<(lsD ts).getD s 0:=by
 have h1:=strict_pos _ _ (cntS_bad ts hn).1 (cntS_bad ts hn).2 s (by rw[cntS_len];exact hs) hp
 have h2:=upto_gt (lsX ts) 257 s (by rw[lsX_len];exact hs) h1
 refine⟨by rw[(lsD_len ts).1];exact h2,?_⟩
 unfold lsD
 rw[take_get h2]
 exact h1
theorem dsD_pos (ts:List Tok) (hn:ts.length≤1000000) (s:Nat) (hs:s<30) (hp:0<(cntD ts).getD s 0):s<(dsD ts).length∧0<(dsD ts).getD s 0:=by
 have h1:=(lens_range _ _ (cntD_bad ts hn).1 (cntD_bad ts hn).2 s (by rw[cntD_len];exact hs)).2.2.2 hp
 have h2:=upto_gt (dsX ts) 1 s (by rw[dsX_len];exact hs) h1
 refine⟨by rw[(dsD_len ts).1];exact h2,?_⟩
 unfold dsD
 rw[take_get h2]
 exact h1
theorem tok_dyn {ts:List Tok} (hn:ts.length≤1000000) {t:Tok} (ht:t∈ts) (h:tokIn t):tokOk (lsD ts) (dsD ts) t:=by
 rcases h with h|h
 ·exact .inl h
 ·refine .inr ⟨h.1,h.2.1,h.2.2.1,h.2.2.2,?_,?_⟩
  ·exact(lsD_pos ts hn _ (by have:=lenD_lt t.len.toNat;omega) ((cntS_pos ts t ht).2 (by omega))).1
  ·exact(dsD_pos ts hn _ (by have:=dstD_lt t.dist.toNat;omega) (cntD_pos ts t ht (by omega))).1
def TokB (w:World) (B:Nat) (A:Option Addr):Prop:=∀ g o,A=some ⟨g,o,none⟩→g≠B∧∃ cs fr,w.heap[g]?=some (.cells cs 151 fr)
theorem tok_cells {w W:World} {A:Option Addr} {ts:List Tok} (h:TokAt w A ts) (he:∀ g o,A=some ⟨g,o,none⟩→W.heap[g]?=w.heap[g]?):TokAt W A ts:=fun j hj=>by
 obtain⟨g,o,e,h1,h2,h3⟩:=h j hj
 have hb:=he g o e
 exact⟨g,o,e,(World.cell?_of_block (a:=⟨g,o+j*3,none⟩) hb).trans h1,(World.cell?_of_block (a:=⟨g,o+j*3+1,none⟩) hb).trans h2,(World.cell?_of_block (a:=⟨g,o+j*3+2,none⟩) hb).trans h3⟩
theorem tok_wrote {B o base:Nat} {v v':Value} {w W:World} {bs:List Bool} {A:Option Addr} {ts:List Tok} (hA:TokAt w A ts) (hAB:TokB w B A) (hw:WAt w base B o v bs) (h:Wrote B o v w v' W):TokAt W A ts∧TokB W B A:=by
 have key:∀ g o,A=some ⟨g,o,none⟩→g≠B∧∃ cs fr,w.heap[g]?=some (.cells cs 151 fr)∧W.heap[g]?=some (.cells cs 151 fr):=fun g o e=>by
  obtain⟨h1,cs,fr,h2⟩:=hAB g o e
  exact⟨h1,cs,fr,h2,wrote_block h hw h2 h1 (by decide)⟩
 refine⟨tok_cells hA (fun g o e=>?_),fun g o e=>?_⟩
 ·obtain⟨_,cs,fr,h1,h2⟩:=key g o e
  exact h2.trans h1.symm
 ·obtain⟨h0,cs,fr,h1,h2⟩:=key g o e
  exact⟨h0,cs,fr,h2⟩
theorem tokB_below {B:Nat} {w W:World} {A:Option Addr} (h:TokB w B A) (hb:Below w.heap.size w W):TokB W B A:=fun g o e=>by
 obtain⟨h1,cs,fr,h2⟩:=h g o e
 exact⟨h1,cs,fr,(hb.block g (Array.getElem?_eq_some_iff.1 h2).1).trans h2⟩
def bodyB (kind:Nat) (ts:List Tok):List Bool:=if kind=1 then toksB fixL fixD ts++wordB fixL 256 else headB ts++(toksB (lsD ts) (dsD ts) ts++wordB (lsD ts) 256)
def kindB (kind:Nat) (last:Bool):List Bool:=bitsN 3 (2*kind+if last then 1 else 0)
def blockB (kind:Nat) (last:Bool) (ts:List Tok):List Bool:=kindB kind last++bodyB kind ts
set_option maxHeartbeats 2000000 in
set_option maxRecDepth 100000 in
theorem write_bad (kind:Int) (last:Bool) (s:ByteArray) (A:Option Addr) (c:Nat) (ts:List Tok) (p:Option Addr) (w:World) (hA:TokAt w A ts) (hl:ts.length≤140737488351232) (hm:mayB kind s.size ts=false) :
  Calls Tryz.prog 73 #[.pointer p,.int .i64 kind,.bool last,.string s,.slice A ts.length c] w fun e w'=>e= .returned (.int .i64 1)∧Below w.heap.size w w':=by
 have HM:=Lib.hid (may_calls kind s A c ts w hA hl)
 rw[hm]at HM
 have B0:=Lib.hid (Below.refl w.heap.size w)
 clear hA hm
 generalize ts.length=n at *
 cases p with
 | none =>
  go_enter Tryz.func73,Tryz.ntmps73
  go_wp2
  go_ret
  exact⟨rfl,B0.out⟩
 | some a =>
  go_enter Tryz.func73,Tryz.ntmps73
  go_wp2_with fail
  refine HM.out.mono ?_
  rintro e w1 ⟨rfl,hb⟩
  have HB:=Lib.hid hb
  clear hb
  go_wp2
  go_ret
  exact⟨rfl,HB.out⟩
theorem headB_le (ts:List Tok) (hn:ts.length≤1000000):(headB ts).length≤8000:=by
 have h1:=exsB_len (tellD ts) (toldD ts) (told_ok ts hn).1
 have h2:=(told_ok ts hn).2.1
 have h3:=tellGo_le (tellD ts) 19
 unfold headB
 rw[List.length_append,List.length_append,bitsN_len,tellsB_len]
 unfold tellC
 omega
set_option maxHeartbeats 4000000 in
set_option maxRecDepth 100000 in
theorem write1_calls (last:Bool) (s:ByteArray) (A:Option Addr) (c:Nat) (ts:List Tok) (base B o:Nat) (v:Value) (bs:List Bool) (w:World) (hA:TokAt w A ts) (hAB:TokB w B A) (hbyte:∀ t∈ts,0≤t.b∧t.b<256) (hm:mayB 1 s.size ts=true) (hw:WAt w base B o v bs) (hbs:bs.length≤10000000000) :
  Calls Tryz.prog 73 #[.pointer (some ⟨B,o,none⟩),.int .i64 1,.bool last,.string s,.slice A ts.length c] w fun e w'=>e= .returned (.int .i64 0)∧∃ v',WAt w' base B o v' (bs++blockB 1 last ts)∧Wrote B o v w v' w':=by
 have hm2:=hm
 unfold mayB at hm2
 simp only[Bool.and_eq_true,decide_eq_true_eq,List.all_eq_true]at hm2
 have hn:ts.length≤65535:=hm2.1.2
 have HIN:Hid (∀ t∈ts,tokIn t):=Lib.hid (fun t ht=>tok_in (hm2.2 t ht) (hbyte t ht))
 have HM:=Lib.hid (may_calls 1 s A c ts w hA (by omega))
 rw[hm]at HM
 have HW0:=Lib.hid hw
 have HAT:=Lib.hid hA
 have HAB:=Lib.hid hAB
 have hkv:kindB 1 last=bitsN 3 (if last then 3 else 2):=by unfold kindB;cases last<;>rfl
 have HKV:=Lib.hid hkv
 have hor:Go.bits .or .u64 2 1=3:=by decide +kernel
 obtain⟨n,hn1⟩:∃ n,ts.length=n:=⟨_,rfl⟩
 have HN:=Lib.hid hn1
 rw[hn1]at HM hn ⊢
 clear hm hm2 hw hA hAB hbyte hkv hn1
 cases last with
 | false =>
  go_enter Tryz.func73,Tryz.ntmps73
  go_wp2_with fail
  refine HM.out.mono ?_
  rintro e w1 ⟨rfl,hb⟩
  have HW1:=Lib.hid (wat_below HW0.out hb)
  have HR1:=Lib.hid (wrote_grow (Wrote.refl B o v w) HW0.out.Bt hb)
  have HA1:=Lib.hid (HAT.out.below hb)
  have HB1:=Lib.hid (tokB_below HAB.out hb)
  have HCW:=Lib.hid (write_any base B o v bs 2 3 w1 HW1.out (by omega) (by omega) (by omega))
  clear hb
  go_wp2_with fail
  refine HCW.out.mono ?_
  rintro e w2 ⟨rfl,v2,r1,r2⟩
  have HT2:=Lib.hid (tok_wrote HA1.out HB1.out HW1.out r2)
  have HW2:Hid (WAt w2 base B o v2 (bs++kindB 1 false)):=Lib.hid (by rw[HKV.out];exact r1)
  have HR2:=Lib.hid (HR1.out.trans r2)
  have HKL:(bs++kindB 1 false).length≤10000000003:=by rw[List.length_append];unfold kindB;rw[bitsN_len];omega
  clear r1 r2 HCW HW1 HR1 HA1 HB1
  have HFX:=Lib.hid (fixed_calls w2)
  go_wp2_with fail
  refine HFX.out.mono ?_
  rintro e w3 ⟨g,rfl,hc,hbl⟩
  have hB3:=HW2.out.Bt
  have HW3:=Lib.hid (wat_below HW2.out hbl)
  have HR3:=Lib.hid (wrote_grow HR2.out HW2.out.Bt hbl)
  have HTK:=Lib.hid (tokens_calls w2.heap.size g base B o v2 (bs++kindB 1 false) fixL fixD A c ts w3 hc HW3.out hB3 (fun v' W h=>(tok_wrote (HT2.out.1.below hbl) (tokB_below HT2.out.2 hbl) HW3.out h).1) (fun t ht=>tok_fix (HIN.out t ht)) (by rw[fixL_len];decide) (by rw[fixL_len];decide) (by show(List.replicate 32 (5:Int)).length≤_;rw[List.length_replicate];decide) (by rw[HN.out];omega) (by omega))
  rw[HN.out]at HTK
  clear hc hbl HFX
  go_wp2_with fail
  refine HTK.out.mono ?_
  rintro e w4 ⟨rfl,v4,r1,r2⟩
  have HF1:Hid (WAt w4 base B o v4 (bs++blockB 1 false ts)):=Lib.hid (by
   have e:bs++blockB 1 false ts=bs++kindB 1 false++toksB fixL fixD ts++wordB fixL 256:=by unfold blockB bodyB;rw[if_pos rfl];simp only[List.append_assoc]
   rw[e]
   exact r1)
  have HF2:=Lib.hid (HR3.out.trans r2)
  clear r1 r2
  go_wp2
  go_ret
  exact⟨rfl,v4,HF1.out,HF2.out⟩
 | true =>
  go_enter Tryz.func73,Tryz.ntmps73
  go_wp2_with fail
  refine HM.out.mono ?_
  rintro e w1 ⟨rfl,hb⟩
  have HW1:=Lib.hid (wat_below HW0.out hb)
  have HR1:=Lib.hid (wrote_grow (Wrote.refl B o v w) HW0.out.Bt hb)
  have HA1:=Lib.hid (HAT.out.below hb)
  have HB1:=Lib.hid (tokB_below HAB.out hb)
  have HCW:=Lib.hid (write_any base B o v bs 3 3 w1 HW1.out (by omega) (by omega) (by omega))
  clear hb
  go_wp2_with fail
  refine HCW.out.mono ?_
  rintro e w2 ⟨rfl,v2,r1,r2⟩
  have HT2:=Lib.hid (tok_wrote HA1.out HB1.out HW1.out r2)
  have HW2:Hid (WAt w2 base B o v2 (bs++kindB 1 true)):=Lib.hid (by rw[HKV.out];exact r1)
  have HR2:=Lib.hid (HR1.out.trans r2)
  have HKL:(bs++kindB 1 true).length≤10000000003:=by rw[List.length_append];unfold kindB;rw[bitsN_len];omega
  clear r1 r2 HCW HW1 HR1 HA1 HB1
  have HFX:=Lib.hid (fixed_calls w2)
  go_wp2_with fail
  refine HFX.out.mono ?_
  rintro e w3 ⟨g,rfl,hc,hbl⟩
  have hB3:=HW2.out.Bt
  have HW3:=Lib.hid (wat_below HW2.out hbl)
  have HR3:=Lib.hid (wrote_grow HR2.out HW2.out.Bt hbl)
  have HTK:=Lib.hid (tokens_calls w2.heap.size g base B o v2 (bs++kindB 1 true) fixL fixD A c ts w3 hc HW3.out hB3 (fun v' W h=>(tok_wrote (HT2.out.1.below hbl) (tokB_below HT2.out.2 hbl) HW3.out h).1) (fun t ht=>tok_fix (HIN.out t ht)) (by rw[fixL_len];decide) (by rw[fixL_len];decide) (by show(List.replicate 32 (5:Int)).length≤_;rw[List.length_replicate];decide) (by rw[HN.out];omega) (by omega))
  rw[HN.out]at HTK
  clear hc hbl HFX
  go_wp2_with fail
  refine HTK.out.mono ?_
  rintro e w4 ⟨rfl,v4,r1,r2⟩
  have HF1:Hid (WAt w4 base B o v4 (bs++blockB 1 true ts)):=Lib.hid (by
   have e:bs++blockB 1 true ts=bs++kindB 1 true++toksB fixL fixD ts++wordB fixL 256:=by unfold blockB bodyB;rw[if_pos rfl];simp only[List.append_assoc]
   rw[e]
   exact r1)
  have HF2:=Lib.hid (HR3.out.trans r2)
  clear r1 r2
  go_wp2
  go_ret
  exact⟨rfl,v4,HF1.out,HF2.out⟩
set_option maxHeartbeats 4000000 in
set_option maxRecDepth 100000 in
theorem write2_calls (last:Bool) (s:ByteArray) (A:Option Addr) (c:Nat) (ts:List Tok) (base B o:Nat) (v:Value) (bs:List Bool) (w:World) (hA:TokAt w A ts) (hAB:TokB w B A) (hbyte:∀ t∈ts,0≤t.b∧t.b<256) (hm:mayB 2 s.size ts=true) (hw:WAt w base B o v bs) (hO:OrdT w) (hO1:4<base) (hO2:4≠B) (hbs:bs.length≤10000000000) :
  Calls Tryz.prog 73 #[.pointer (some ⟨B,o,none⟩),.int .i64 2,.bool last,.string s,.slice A ts.length c] w fun e w'=>e= .returned (.int .i64 0)∧∃ v',WAt w' base B o v' (bs++blockB 2 last ts)∧Wrote B o v w v' w':=by
 have hm2:=hm
 unfold mayB at hm2
 simp only[Bool.and_eq_true,decide_eq_true_eq,List.all_eq_true]at hm2
 have hn:ts.length≤65535:=hm2.1.2
 have HIN:Hid (∀ t∈ts,tokIn t):=Lib.hid (fun t ht=>tok_in (hm2.2 t ht) (hbyte t ht))
 have HM:=Lib.hid (may_calls 2 s A c ts w hA (by omega))
 rw[hm]at HM
 have HW0:=Lib.hid hw
 have HAT:=Lib.hid hA
 have HAB:=Lib.hid hAB
 have hkv:kindB 2 last=bitsN 3 (if last then 5 else 4):=by unfold kindB;cases last<;>rfl
 have HKV:=Lib.hid hkv
 have hor:Go.bits .or .u64 4 1=5:=by decide +kernel
 have HO:=Lib.hid hO
 obtain⟨n,hn1⟩:∃ n,ts.length=n:=⟨_,rfl⟩
 have HN:=Lib.hid hn1
 rw[hn1]at HM hn ⊢
 clear hm hm2 hw hA hAB hbyte hkv hn1 hO
 cases last with
 | false =>
  go_enter Tryz.func73,Tryz.ntmps73
  go_wp2_with fail
  refine HM.out.mono ?_
  rintro e w1 ⟨rfl,hb⟩
  have HW1:=Lib.hid (wat_below HW0.out hb)
  have HR1:=Lib.hid (wrote_grow (Wrote.refl B o v w) HW0.out.Bt hb)
  have HA1:=Lib.hid (HAT.out.below hb)
  have HB1:=Lib.hid (tokB_below HAB.out hb)
  have HO1:=Lib.hid (HO.out.below hb (Nat.le_refl _))
  have HCW:=Lib.hid (write_any base B o v bs 4 3 w1 HW1.out (by omega) (by omega) (by omega))
  clear hb
  go_wp2_with fail
  refine HCW.out.mono ?_
  rintro e w2 ⟨rfl,v2,r1,r2⟩
  have HT2:=Lib.hid (tok_wrote HA1.out HB1.out HW1.out r2)
  have HO2:=Lib.hid (ord_wrote r2 HW1.out HO1.out hO1 hO2)
  have HW2:Hid (WAt w2 base B o v2 (bs++kindB 2 false)):=Lib.hid (by rw[HKV.out];exact r1)
  have HR2:=Lib.hid (HR1.out.trans r2)
  have HKL:(bs++kindB 2 false).length≤10000000003:=by rw[List.length_append];unfold kindB;rw[bitsN_len];omega
  clear r1 r2 HCW HW1 HR1 HA1 HB1
  have HFX:=Lib.hid (dyn_calls A c ts w2 HT2.out.1 HIN.out (by rw[HN.out];omega) HO2.out)
  rw[HN.out]at HFX
  go_wp2_with fail
  refine HFX.out.mono ?_
  rintro e w3 ⟨g,rfl,hc,hbl⟩
  have hB3:=HW2.out.Bt
  have HW3:=Lib.hid (wat_below HW2.out hbl)
  have HR3:=Lib.hid (wrote_grow HR2.out HW2.out.Bt hbl)
  have HT3:=Lib.hid (⟨HT2.out.1.below hbl,tokB_below HT2.out.2 hbl⟩:TokAt w3 A ts∧TokB w3 B A)
  have HC3:=Lib.hid hc
  have HHD:=Lib.hid (head_calls w2.heap.size g base B o v2 (bs++kindB 2 false) ts w3 hc HW3.out hB3 (by rw[HN.out];omega) (HO2.out.below hbl (Nat.le_refl _)) hO1 hO2 (by omega))
  clear hc hbl HFX
  go_wp2_with fail
  refine HHD.out.mono ?_
  rintro e w4 ⟨rfl,v4,r1,r2⟩
  have HC4:=Lib.hid (dyn_wrote r2 HW3.out hB3 HC3.out)
  have HT4:=Lib.hid (tok_wrote HT3.out.1 HT3.out.2 HW3.out r2)
  have HW4:=Lib.hid r1
  have HR4:=Lib.hid (HR3.out.trans r2)
  have hl1:=lsD_len ts
  have hl2:=dsD_len ts
  have hhl:=headB_le ts (by rw[HN.out];omega)
  have HTK:=Lib.hid (tokens_calls w2.heap.size g base B o v4 (bs++kindB 2 false++headB ts) (lsD ts) (dsD ts) A c ts w4 HC4.out.coder HW4.out hB3 (fun v' W h=>(tok_wrote HT4.out.1 HT4.out.2 HW4.out h).1) (fun t ht=>tok_dyn (by rw[HN.out];omega) ht (HIN.out t ht)) (by omega) (by omega) (by omega) (by rw[HN.out];omega) (by rw[List.length_append];omega))
  rw[HN.out]at HTK
  clear r1 r2 HHD hl1 hl2
  go_wp2_with fail
  refine HTK.out.mono ?_
  rintro e w5 ⟨rfl,v5,r1,r2⟩
  have HF1:Hid (WAt w5 base B o v5 (bs++blockB 2 false ts)):=Lib.hid (by
   have e:bs++blockB 2 false ts=bs++kindB 2 false++headB ts++toksB (lsD ts) (dsD ts) ts++wordB (lsD ts) 256:=by unfold blockB bodyB;rw[if_neg (by decide)];simp only[List.append_assoc]
   rw[e]
   exact r1)
  have HF2:=Lib.hid (HR4.out.trans r2)
  clear r1 r2
  go_wp2
  go_ret
  exact⟨rfl,v5,HF1.out,HF2.out⟩
 | true =>
  go_enter Tryz.func73,Tryz.ntmps73
  go_wp2_with fail
  refine HM.out.mono ?_
  rintro e w1 ⟨rfl,hb⟩
  have HW1:=Lib.hid (wat_below HW0.out hb)
  have HR1:=Lib.hid (wrote_grow (Wrote.refl B o v w) HW0.out.Bt hb)
  have HA1:=Lib.hid (HAT.out.below hb)
  have HB1:=Lib.hid (tokB_below HAB.out hb)
  have HO1:=Lib.hid (HO.out.below hb (Nat.le_refl _))
  have HCW:=Lib.hid (write_any base B o v bs 5 3 w1 HW1.out (by omega) (by omega) (by omega))
  clear hb
  go_wp2_with fail
  refine HCW.out.mono ?_
  rintro e w2 ⟨rfl,v2,r1,r2⟩
  have HT2:=Lib.hid (tok_wrote HA1.out HB1.out HW1.out r2)
  have HO2:=Lib.hid (ord_wrote r2 HW1.out HO1.out hO1 hO2)
  have HW2:Hid (WAt w2 base B o v2 (bs++kindB 2 true)):=Lib.hid (by rw[HKV.out];exact r1)
  have HR2:=Lib.hid (HR1.out.trans r2)
  have HKL:(bs++kindB 2 true).length≤10000000003:=by rw[List.length_append];unfold kindB;rw[bitsN_len];omega
  clear r1 r2 HCW HW1 HR1 HA1 HB1
  have HFX:=Lib.hid (dyn_calls A c ts w2 HT2.out.1 HIN.out (by rw[HN.out];omega) HO2.out)
  rw[HN.out]at HFX
  go_wp2_with fail
  refine HFX.out.mono ?_
  rintro e w3 ⟨g,rfl,hc,hbl⟩
  have hB3:=HW2.out.Bt
  have HW3:=Lib.hid (wat_below HW2.out hbl)
  have HR3:=Lib.hid (wrote_grow HR2.out HW2.out.Bt hbl)
  have HT3:=Lib.hid (⟨HT2.out.1.below hbl,tokB_below HT2.out.2 hbl⟩:TokAt w3 A ts∧TokB w3 B A)
  have HC3:=Lib.hid hc
  have HHD:=Lib.hid (head_calls w2.heap.size g base B o v2 (bs++kindB 2 true) ts w3 hc HW3.out hB3 (by rw[HN.out];omega) (HO2.out.below hbl (Nat.le_refl _)) hO1 hO2 (by omega))
  clear hc hbl HFX
  go_wp2_with fail
  refine HHD.out.mono ?_
  rintro e w4 ⟨rfl,v4,r1,r2⟩
  have HC4:=Lib.hid (dyn_wrote r2 HW3.out hB3 HC3.out)
  have HT4:=Lib.hid (tok_wrote HT3.out.1 HT3.out.2 HW3.out r2)
  have HW4:=Lib.hid r1
  have HR4:=Lib.hid (HR3.out.trans r2)
  have hl1:=lsD_len ts
  have hl2:=dsD_len ts
  have hhl:=headB_le ts (by rw[HN.out];omega)
  have HTK:=Lib.hid (tokens_calls w2.heap.size g base B o v4 (bs++kindB 2 true++headB ts) (lsD ts) (dsD ts) A c ts w4 HC4.out.coder HW4.out hB3 (fun v' W h=>(tok_wrote HT4.out.1 HT4.out.2 HW4.out h).1) (fun t ht=>tok_dyn (by rw[HN.out];omega) ht (HIN.out t ht)) (by omega) (by omega) (by omega) (by rw[HN.out];omega) (by rw[List.length_append];omega))
  rw[HN.out]at HTK
  clear r1 r2 HHD hl1 hl2
  go_wp2_with fail
  refine HTK.out.mono ?_
  rintro e w5 ⟨rfl,v5,r1,r2⟩
  have HF1:Hid (WAt w5 base B o v5 (bs++blockB 2 true ts)):=Lib.hid (by
   have e:bs++blockB 2 true ts=bs++kindB 2 true++headB ts++toksB (lsD ts) (dsD ts) ts++wordB (lsD ts) 256:=by unfold blockB bodyB;rw[if_neg (by decide)];simp only[List.append_assoc]
   rw[e]
   exact r1)
  have HF2:=Lib.hid (HR4.out.trans r2)
  clear r1 r2
  go_wp2
  go_ret
  exact⟨rfl,v5,HF1.out,HF2.out⟩
end Go.Proofs.YtgiogemkomgkhaaGreatDoor.Bk
namespace Go.Proofs.YtgiogemkomgkhaaGreatDoor.Bk
open Go.RowKit Go.Shelf Mg Bw Ri
def TokR (w:World) (A:Option Addr):Prop:=∀ g o,A=some ⟨g,o,none⟩→∃ cs fr,w.heap[g]?=some (.cells cs 151 fr)
theorem TokR.below {w W:World} {A:Option Addr} (h:TokR w A) (hb:Below w.heap.size w W):TokR W A:=fun g o e=>by
 obtain⟨cs,fr,h2⟩:=h g o e
 exact⟨cs,fr,(hb.block g (Array.getElem?_eq_some_iff.1 h2).1).trans h2⟩
theorem writer_new (w:World):WAt (w.alloc (.cells #[.slice none 0 0,.int .u64 0,.int .i64 0] 110)) w.heap.size w.heap.size 0 (.slice none 0 0) []:=by
 have hz:=World.alloc_heap_new w (.cells #[.slice none 0 0,.int .u64 0,.int .i64 0] 110)
 refine⟨[],0,0,⟨World.ownsRow_nil _ _ _ _,(cell_at hz 0 _ rfl).1,(cell_at hz 1 _ rfl).1,(cell_at hz 2 _ rfl).1,fun k=>?_,(by intro e;cases e),fun x hx=>(by cases hx),by decide,by simp⟩,by decide,rfl⟩
 unfold World.frozen?
 simp only
 rw[hz]
 simp
theorem tokB_new {w:World} {A:Option Addr} (h:TokR w A) (X:Obj):TokB (w.alloc X) w.heap.size A:=fun g o e=>by
 obtain⟨cs,fr,h2⟩:=h g o e
 have hl:=(Array.getElem?_eq_some_iff.1 h2).1
 exact⟨Nat.ne_of_lt hl,cs,fr,(((Below.refl w.heap.size w).alloc (Nat.le_refl _) X).block g hl).trans h2⟩
def sizeN (kind sz:Nat) (ts:List Tok):Nat:=if kind=0 then 35+8*sz else(blockB kind false ts).length
theorem may_any (k j:Int) (hk:0≤k∧k<3) (hj:0≤j∧j<3) (sz:Nat) (ts:List Tok):mayB k sz ts=mayB j sz ts:=by
 unfold mayB
 rw[decide_eq_true hk.1,decide_eq_true hk.2,decide_eq_true hj.1,decide_eq_true hj.2]
theorem may_len {k:Int} {sz:Nat} {ts:List Tok} (h:mayB k sz ts=true):ts.length≤65535∧sz≤65535:=by
 unfold mayB at h
 simp only[Bool.and_eq_true,decide_eq_true_eq]at h
 omega
theorem kindB_len (k:Nat) (b:Bool):(kindB k b).length=3:=bitsN_len _ _
theorem blockB_le (k:Nat) (hk:k=1∨k=2) (b:Bool) (ts:List Tok) (hn:ts.length≤65535):(blockB k b ts).length≤4000000:=by
 unfold blockB
 rw[List.length_append,kindB_len]
 rcases hk with rfl|rfl
 ·unfold bodyB
  rw[if_pos rfl,List.length_append]
  have h1:=toksB_le fixL fixD ts
  have h2:=wordB_le fixL 256
  omega
 ·unfold bodyB
  rw[if_neg (by decide),List.length_append,List.length_append]
  have h1:=toksB_le (lsD ts) (dsD ts) ts
  have h2:=wordB_le (lsD ts) 256
  have h3:=headB_le ts (by omega)
  omega
set_option maxHeartbeats 2000000 in
set_option maxRecDepth 100000 in
theorem size_bad (kind:Int) (s:ByteArray) (A:Option Addr) (c:Nat) (ts:List Tok) (w:World) (hA:TokAt w A ts) (hl:ts.length≤140737488351232) (hm:mayB kind s.size ts=false) :
  Calls Tryz.prog 90 #[.int .i64 kind,.string s,.slice A ts.length c] w fun e w'=>e= .returned (.tuple #[.int .i64 0,.bool false])∧Below w.heap.size w w':=by
 have HM:=Lib.hid (may_calls kind s A c ts w hA hl)
 rw[hm]at HM
 have HWB:=Lib.hid (fun (W:World) (p:Option Addr) (h:TokAt W A ts)=>write_bad kind false s A c ts p W h hl hm)
 have HA:=Lib.hid hA
 have B0:=Lib.hid (Below.refl w.heap.size w)
 generalize ts.length=n at *
 clear hA hm
 have fin:∀ W:World,Below w.heap.size w W→TokAt W A ts→Calls Tryz.prog 73 #[.pointer (some ⟨W.heap.size,0,none⟩),.int .i64 kind,.bool false,.string s,.slice A n c] (W.alloc (.cells #[.slice none 0 0,.int .u64 0,.int .i64 0] 110)) fun e w'=>e= .returned (.int .i64 1)∧WAt w' W.heap.size W.heap.size 0 (.slice none 0 0) []∧Below w.heap.size w w':=fun W hW hT=>by
  refine(HWB.out _ _ (hT.below ((Below.refl _ _).alloc (Nat.le_refl _) _))).mono ?_
  rintro e w' ⟨rfl,hb⟩
  exact⟨rfl,wat_below (writer_new W) hb,(hW.alloc hW.size _).trans (hb.mono (by have:=hW.size;simp;omega))⟩
 have FIN:=Lib.hid fin
 clear fin HWB
 by_cases h0:kind=0
 ·subst h0
  go_enter Tryz.func90,Tryz.ntmps90
  go_wp2_with fail
  refine HM.out.mono ?_
  rintro e w1 ⟨rfl,hb⟩
  have HB:=Lib.hid hb
  have HT:=Lib.hid (HA.out.below hb)
  clear hb
  go_wp2_with fail
  refine(FIN.out w1 HB.out HT.out).mono ?_
  rintro e w2 ⟨rfl,hw,hb2⟩
  have HB2:=Lib.hid hb2
  have HLN:=Lib.hid (len_calls _ _ 0 _ [] w2 hw (by decide))
  clear hb2 hw
  go_wp2_with fail
  refine HLN.out.mono ?_
  rintro e w3 ⟨rfl,q,rfl⟩
  have HB3:=Lib.hid (Go.below_drewN HB2.out q)
  go_wp2
  go_ret2
  exact⟨rfl,HB3.out⟩
 ·have q0:(kind == 0)=false:=beq_eq_false_iff_ne.2 h0
  go_enter Tryz.func90,Tryz.ntmps90
  go_wp2_with fail
  refine(FIN.out w B0.out HA.out).mono ?_
  rintro e w2 ⟨rfl,hw,hb2⟩
  have HB2:=Lib.hid hb2
  have HLN:=Lib.hid (len_calls _ _ 0 _ [] w2 hw (by decide))
  clear hb2 hw
  go_wp2_with fail
  refine HLN.out.mono ?_
  rintro e w3 ⟨rfl,q,rfl⟩
  have HB3:=Lib.hid (Go.below_drewN HB2.out q)
  go_wp2
  go_ret2
  exact⟨rfl,HB3.out⟩
set_option maxHeartbeats 2000000 in
set_option maxRecDepth 100000 in
theorem size0_calls (s:ByteArray) (A:Option Addr) (c:Nat) (ts:List Tok) (w:World) (hA:TokAt w A ts) (hm:mayB 0 s.size ts=true) :
  Calls Tryz.prog 90 #[.int .i64 0,.string s,.slice A ts.length c] w fun e w'=>e= .returned (.tuple #[.int .i64 (sizeN 0 s.size ts:Nat),.bool true])∧Below w.heap.size w w':=by
 have HM:=Lib.hid (may_calls 0 s A c ts w hA (by have:=may_len hm;omega))
 rw[hm]at HM
 have hz:=(may_len hm).2
 have e1:wrap64 (8*(s.size:Int))=8*(s.size:Int):=by unfold wrap64;omega
 have e2:wrap64 (35+8*(s.size:Int))=35+8*(s.size:Int):=by unfold wrap64;omega
 have HE:Hid (((sizeN 0 s.size ts:Nat):Int)=35+8*(s.size:Int)):=Lib.hid (by unfold sizeN;rw[if_pos rfl];push_cast;rfl)
 generalize ts.length=n at *
 clear hA hm
 go_enter Tryz.func90,Tryz.ntmps90
 go_wp2_with fail
 refine HM.out.mono ?_
 rintro e w1 ⟨rfl,hb⟩
 have HB:=Lib.hid hb
 clear hb
 go_wp2
 go_ret2
 exact⟨by rw[HE.out];rfl,HB.out⟩
set_option maxHeartbeats 2000000 in
set_option maxRecDepth 100000 in
theorem size1_calls (s:ByteArray) (A:Option Addr) (c:Nat) (ts:List Tok) (w:World) (hA:TokAt w A ts) (hR:TokR w A) (hbyte:∀ t∈ts,0≤t.b∧t.b<256) (hm:mayB 1 s.size ts=true) :
  Calls Tryz.prog 90 #[.int .i64 1,.string s,.slice A ts.length c] w fun e w'=>e= .returned (.tuple #[.int .i64 (sizeN 1 s.size ts:Nat),.bool true])∧Below w.heap.size w w':=by
 have hbl:=(Below.refl w.heap.size w).alloc (Nat.le_refl _) (.cells #[.slice none 0 0,.int .u64 0,.int .i64 0] 110)
 have hle:=blockB_le 1 (by decide) false ts (may_len hm).1
 have HN:Hid (sizeN 1 s.size ts=(blockB 1 false ts).length):=Lib.hid (by unfold sizeN;rw[if_neg (by decide)])
 have HWC:=Lib.hid (write1_calls false s A c ts w.heap.size w.heap.size 0 (.slice none 0 0) [] _ (hA.below hbl) (tokB_new hR _) hbyte hm (writer_new w) (by decide))
 have HBL:=Lib.hid hbl
 rw[List.nil_append]at HWC
 obtain⟨bb,hbb⟩:∃ x,blockB 1 false ts=x:=⟨_,rfl⟩
 rw[hbb]at HWC hle HN
 rw[HN.out]
 generalize ts.length=n at *
 clear hA hR hbyte hm hbl hbb
 go_enter Tryz.func90,Tryz.ntmps90
 go_wp2_with fail
 refine HWC.out.mono ?_
 rintro e w2 ⟨rfl,v2,hw,ht⟩
 have HB2:=Lib.hid (HBL.out.trans (ht.below (Nat.le_refl _) (fun k e=>by cases e) (by simp)))
 have HLN:=Lib.hid (len_calls _ _ 0 _ bb w2 hw (by omega))
 clear ht hw
 go_wp2_with fail
 refine HLN.out.mono ?_
 rintro e w3 ⟨rfl,q,rfl⟩
 have HB3:=Lib.hid (Go.below_drewN HB2.out q)
 go_wp2
 go_ret2
 exact⟨rfl,HB3.out⟩
set_option maxHeartbeats 2000000 in
set_option maxRecDepth 100000 in
theorem size2_calls (s:ByteArray) (A:Option Addr) (c:Nat) (ts:List Tok) (w:World) (hA:TokAt w A ts) (hR:TokR w A) (hbyte:∀ t∈ts,0≤t.b∧t.b<256) (hm:mayB 2 s.size ts=true) (hO:OrdT w) :
  Calls Tryz.prog 90 #[.int .i64 2,.string s,.slice A ts.length c] w fun e w'=>e= .returned (.tuple #[.int .i64 (sizeN 2 s.size ts:Nat),.bool true])∧Below w.heap.size w w':=by
 have hbl:=(Below.refl w.heap.size w).alloc (Nat.le_refl _) (.cells #[.slice none 0 0,.int .u64 0,.int .i64 0] 110)
 have hle:=blockB_le 2 (by decide) false ts (may_len hm).1
 have HN:Hid (sizeN 2 s.size ts=(blockB 2 false ts).length):=Lib.hid (by unfold sizeN;rw[if_neg (by decide)])
 have HWC:=Lib.hid (write2_calls false s A c ts w.heap.size w.heap.size 0 (.slice none 0 0) [] _ (hA.below hbl) (tokB_new hR _) hbyte hm (writer_new w) (hO.below hbl (Nat.le_refl _)) hO.lt (Nat.ne_of_lt hO.lt) (by decide))
 have HBL:=Lib.hid hbl
 rw[List.nil_append]at HWC
 obtain⟨bb,hbb⟩:∃ x,blockB 2 false ts=x:=⟨_,rfl⟩
 rw[hbb]at HWC hle HN
 rw[HN.out]
 generalize ts.length=n at *
 clear hA hR hbyte hm hbl hbb hO
 go_enter Tryz.func90,Tryz.ntmps90
 go_wp2_with fail
 refine HWC.out.mono ?_
 rintro e w2 ⟨rfl,v2,hw,ht⟩
 have HB2:=Lib.hid (HBL.out.trans (ht.below (Nat.le_refl _) (fun k e=>by cases e) (by simp)))
 have HLN:=Lib.hid (len_calls _ _ 0 _ bb w2 hw (by omega))
 clear ht hw
 go_wp2_with fail
 refine HLN.out.mono ?_
 rintro e w3 ⟨rfl,q,rfl⟩
 have HB3:=Lib.hid (Go.below_drewN HB2.out q)
 go_wp2
 go_ret2
 exact⟨rfl,HB3.out⟩
def chooseP (sz:Nat) (ts:List Tok):Nat :=
 if mayB 0 sz ts then
  if sizeN 1 sz ts<35+8*sz then(if sizeN 2 sz ts<sizeN 1 sz ts then 2 else 1) else(if sizeN 2 sz ts<35+8*sz then 2 else 0)
 else 0
set_option maxHeartbeats 4000000 in
set_option maxRecDepth 100000 in
theorem choose_calls (s:ByteArray) (A:Option Addr) (c:Nat) (ts:List Tok) (w:World) (hA:TokAt w A ts) (hl:ts.length≤140737488351232) (hR:TokR w A) (hbyte:∀ t∈ts,0≤t.b∧t.b<256) (hO:OrdT w) :
  Calls Tryz.prog 72 #[.string s,.slice A ts.length c] w fun e w'=>e= .returned (.int .i64 (chooseP s.size ts:Nat))∧Below w.heap.size w w':=by
 cases hm:mayB 0 s.size ts with
 | false =>
  have HS:=Lib.hid (size_bad 0 s A c ts w hA hl hm)
  have HC:Hid (chooseP s.size ts=0):=Lib.hid (by unfold chooseP;rw[hm];rfl)
  generalize ts.length=n at *
  clear hA hm hO
  rw[HC.out]
  go_enter Tryz.func72,Tryz.ntmps72
  go_wp2_with fail
  go_loopw [10] (fun vi wr=>vi= .int .i64 0∧wr=w) (fun _ _=>0)
  case atStart=>exact⟨rfl,rfl⟩
  case round =>
   obtain⟨rfl,rfl⟩:=hrel
   go_wp2_with fail
   refine HS.out.mono ?_
   rintro e w1 ⟨rfl,hb⟩
   have HB:=Lib.hid hb
   clear hb
   go_wp2
   go_ret
   exact⟨rfl,HB.out⟩
 | true =>
  have hmk:∀ k:Int,0≤k→k<3→mayB k s.size ts=true:=fun k h1 h2=>(may_any k 0 ⟨h1,h2⟩ ⟨by decide,by decide⟩ _ _).trans hm
  have HS0:=Lib.hid (size0_calls s A c ts w hA hm)
  have HS1:=Lib.hid (fun (W:World) (hW:Below w.heap.size w W)=>size1_calls s A c ts W (hA.below hW) (hR.below hW) hbyte (hmk 1 (by decide) (by decide)))
  have HS2:=Lib.hid (fun (W:World) (hW:Below w.heap.size w W)=>size2_calls s A c ts W (hA.below hW) (hR.below hW) hbyte (hmk 2 (by decide) (by decide)) (hO.below hW (Nat.le_refl _)))
  have hz:=may_len hm
  have h1:sizeN 1 s.size ts≤4000000:=by unfold sizeN;rw[if_neg (by decide)];exact blockB_le 1 (.inl rfl) _ _ hz.1
  have h2:sizeN 2 s.size ts≤4000000:=by unfold sizeN;rw[if_neg (by decide)];exact blockB_le 2 (.inr rfl) _ _ hz.1
  have h0:sizeN 0 s.size ts=35+8*s.size:=by unfold sizeN;rw[if_pos rfl]
  have HC:Hid (chooseP s.size ts=if sizeN 1 s.size ts<35+8*s.size then(if sizeN 2 s.size ts<sizeN 1 s.size ts then 2 else 1) else(if sizeN 2 s.size ts<35+8*s.size then 2 else 0)):=Lib.hid (by unfold chooseP;rw[hm];rfl)
  obtain⟨n0,hn0⟩:∃ x,sizeN 0 s.size ts=x:=⟨_,rfl⟩
  obtain⟨n1,hn1⟩:∃ x,sizeN 1 s.size ts=x:=⟨_,rfl⟩
  obtain⟨n2,hn2⟩:∃ x,sizeN 2 s.size ts=x:=⟨_,rfl⟩
  rw[hn0]at HS0 h0
  rw[hn1]at HS1 h1 HC
  rw[hn2]at HS2 h2 HC
  obtain⟨sz,hsz⟩:∃ x,s.size=x:=⟨_,rfl⟩
  obtain⟨R,hR2⟩:∃ R,chooseP s.size ts=R:=⟨_,rfl⟩
  rw[hR2]at HC ⊢
  rw[hsz]at h0 HC hz
  generalize ts.length=n at *
  clear hA hm hO hR hbyte hmk hn0 hn1 hn2 hR2 hsz
  have hz2:=hz.2
  have B0:=Lib.hid (Below.refl w.heap.size w)
  go_enter Tryz.func72,Tryz.ntmps72
  go_wp2_with fail
  go_loopw [5,6,10] (fun vb vk vi wr=>Below w.heap.size w wr∧((vi= .int .i64 0∧vb= .int .i64 0∧vk= .int .i64 0∧wr=w)∨(vi= .int .i64 1∧vb= .int .i64 ((35+8*sz:Nat):Int)∧vk= .int .i64 0)∨(∃ b k:Nat,vi= .int .i64 2∧vb= .int .i64 b∧vk= .int .i64 k∧b≤10000000∧(if n2<b then 2 else k)=R∧k≤2)∨(vi= .int .i64 3∧∃ b:Nat,vb= .int .i64 b∧vk= .int .i64 R))) (fun _ _ vi _=>3 - (intOf vi).toNat)
  case atStart=>exact⟨B0.out,.inl ⟨rfl,rfl,rfl,rfl⟩⟩
  case round =>
   obtain⟨hb,⟨rfl,rfl,rfl,rfl⟩|⟨rfl,rfl,rfl⟩|⟨b,k,rfl,rfl,rfl,hb1,hR,hk2⟩|⟨rfl,b,rfl,rfl⟩⟩:=hrel
   ·clear hb
    go_wp2_with fail
    refine HS0.out.mono ?_
    rintro e w1 ⟨rfl,hb⟩
    have HB:=Lib.hid hb
    have e1:wrap64 ((n0:Int)+7)=(n0:Int)+7:=by unfold wrap64;omega
    have t1:decide ((n0:Int)<(n0:Int)+7)=true:=decide_eq_true (by omega)
    have HN0:=Lib.hid h0
    clear hb h0
    go_wp2
    go_roundw
    case rel=>exact⟨HB.out,.inr (.inl ⟨rfl,by rw[HN0.out],rfl⟩)⟩
    case measure=>simp[intOf]
   ·have HB0:=Lib.hid hb
    clear hb
    go_wp2_with fail
    refine(HS1.out _ HB0.out).mono ?_
    rintro e w1 ⟨rfl,hb⟩
    have HB:=Lib.hid (HB0.out.trans (hb.mono HB0.out.size))
    clear hb
    by_cases hlt:n1<35+8*sz
    ·have t1:decide ((n1:Int)<((35+8*sz:Nat):Int))=true:=decide_eq_true (by omega)
     have t2:decide (n1<35+8*sz)=true:=decide_eq_true hlt
     have t3:decide ((n1:Int)<35+8*(sz:Int))=true:=decide_eq_true (by omega)
     have HR2:Hid ((if n2<n1 then 2 else 1)=R):=Lib.hid (by rw[HC.out,if_pos hlt])
     go_wp2
     go_roundw
     case rel=>exact⟨HB.out,.inr (.inr (.inl ⟨n1,1,rfl,rfl,rfl,by omega,HR2.out,by omega⟩))⟩
     case measure=>simp[intOf]
    ·have t1:decide ((n1:Int)<((35+8*sz:Nat):Int))=false:=decide_eq_false (by omega)
     have t2:decide (n1<35+8*sz)=false:=decide_eq_false hlt
     have t3:decide ((n1:Int)<35+8*(sz:Int))=false:=decide_eq_false (by omega)
     have HR2:Hid ((if n2<35+8*sz then 2 else 0)=R):=Lib.hid (by rw[HC.out,if_neg hlt])
     go_wp2
     go_roundw
     case rel=>exact⟨HB.out,.inr (.inr (.inl ⟨35+8*sz,0,rfl,rfl,rfl,by omega,HR2.out,by omega⟩))⟩
     case measure=>simp[intOf]
   ·have HB0:=Lib.hid hb
    have HRR:=Lib.hid hR
    clear hb hR
    go_wp2_with fail
    refine(HS2.out _ HB0.out).mono ?_
    rintro e w1 ⟨rfl,hb⟩
    have HB:=Lib.hid (HB0.out.trans (hb.mono HB0.out.size))
    clear hb
    by_cases hlt:n2<b
    ·have t1:decide ((n2:Int)<(b:Int))=true:=decide_eq_true (by omega)
     have t2:decide (n2<b)=true:=decide_eq_true hlt
     have HR2:Hid (R=2):=Lib.hid (by rw[← HRR.out,if_pos hlt])
     go_wp2
     go_roundw
     case rel=>exact⟨HB.out,.inr (.inr (.inr ⟨rfl,n2,rfl,by rw[HR2.out];rfl⟩))⟩
     case measure=>simp[intOf]
    ·have t1:decide ((n2:Int)<(b:Int))=false:=decide_eq_false (by omega)
     have t2:decide (n2<b)=false:=decide_eq_false hlt
     have HR2:Hid (R=k):=Lib.hid (by rw[← HRR.out,if_neg hlt])
     go_wp2
     go_roundw
     case rel=>exact⟨HB.out,.inr (.inr (.inr ⟨rfl,b,rfl,by rw[HR2.out]⟩))⟩
     case measure=>simp[intOf]
   ·have HB:=Lib.hid hb
    clear hb
    go_wp2
    go_ret
    exact⟨rfl,HB.out⟩
end Go.Proofs.YtgiogemkomgkhaaGreatDoor.Bk
namespace Go.Proofs.YtgiogemkomgkhaaGreatDoor.Bk
open Go.RowKit Go.Shelf Mg Bw Ri Zp
theorem padB_padB (bs:List Bool):padB (padB bs)=padB bs:=by
 have h:=padB_mod bs
 show padB bs++List.replicate ((8 - (padB bs).length % 8) % 8) false=padB bs
 rw[h]
 simp
def storedS (s:ByteArray):ByteArray:=putS s.size 2++putS (65535 - s.size) 2++s
def storedB (bs:List Bool) (last:Bool) (s:ByteArray):List Bool:=padB (bs++kindB 0 last)++strB (storedS s)
theorem storedS_size (s:ByteArray):(storedS s).size=s.size+4:=by
 unfold storedS
 rw[ByteArray.size_append,ByteArray.size_append,putS_size,putS_size]
 omega
set_option maxHeartbeats 4000000 in
set_option maxRecDepth 100000 in
theorem write0_calls (last:Bool) (s:ByteArray) (A:Option Addr) (c:Nat) (ts:List Tok) (base B o:Nat) (v:Value) (bs:List Bool) (w:World) (hA:TokAt w A ts) (hm:mayB 0 s.size ts=true) (hw:WAt w base B o v bs) (hbs:bs.length≤10000000000) :
  Calls Tryz.prog 73 #[.pointer (some ⟨B,o,none⟩),.int .i64 0,.bool last,.string s,.slice A ts.length c] w fun e w'=>e= .returned (.int .i64 0)∧∃ v',WAt w' base B o v' (storedB bs last s)∧Wrote B o v w v' w':=by
 have hn:=may_len hm
 have HM:=Lib.hid (may_calls 0 s A c ts w hA (by omega))
 rw[hm]at HM
 have HW0:=Lib.hid hw
 have hkv:kindB 0 last=bitsN 3 (if last then 1 else 0):=by unfold kindB;cases last<;>rfl
 have HKV:=Lib.hid hkv
 have hor:Go.bits .or .u64 0 1=1:=by decide +kernel
 have HP1:=Lib.hid (fun W:World=>put_calls s.size 2 W (by omega) (by omega) (by omega))
 have HP2:=Lib.hid (fun W:World=>put_calls (65535 - s.size) 2 W (by omega) (by omega) (by omega))
 have hst:=storedS_size s
 have HST:Hid (storedS s=putS s.size 2++putS (65535 - s.size) 2++s):=Lib.hid rfl
 have e1:(65535:Int) - (s.size:Int)=((65535 - s.size:Nat):Int):=by omega
 have hs5:(s.size:Int)≤65535:=by omega
 have HE1:=Lib.hid e1
 have z1:(putS s.size 2).size=2:=putS_size _ _
 have z2:(putS (65535 - s.size) 2).size=2:=putS_size _ _
 have z3:(putS s.size 2++putS (65535 - s.size) 2).size=4:=by rw[ByteArray.size_append,z1,z2]
 generalize ts.length=n at *
 clear hm hw hA hkv e1
 cases last with
 | false =>
  go_enter Tryz.func73,Tryz.ntmps73
  go_wp2_with fail
  refine HM.out.mono ?_
  rintro e w1 ⟨rfl,hb⟩
  have HW1:=Lib.hid (wat_below HW0.out hb)
  have HR1:=Lib.hid (wrote_grow (Wrote.refl B o v w) HW0.out.Bt hb)
  have HCW:=Lib.hid (write_any base B o v bs 0 3 w1 HW1.out (by omega) (by omega) (by omega))
  clear hb
  go_wp2_with fail
  refine HCW.out.mono ?_
  rintro e w2 ⟨rfl,v2,r1,r2⟩
  have HW2:Hid (WAt w2 base B o v2 (bs++kindB 0 false)):=Lib.hid (by rw[HKV.out];exact r1)
  have HR2:=Lib.hid (HR1.out.trans r2)
  have hkl:(bs++kindB 0 false).length≤10000000003:=by rw[List.length_append,kindB_len];omega
  have HAL:=Lib.hid (align_calls base B o v2 (bs++kindB 0 false) w2 HW2.out (by omega))
  clear r1 r2 HCW HW1 HR1
  go_wp2_with fail
  refine HAL.out.mono ?_
  rintro e w3 ⟨rfl,v3,r1,r2⟩
  have hpl:=padB_le (bs++kindB 0 false)
  have HW3:=Lib.hid r1
  have HR3:=Lib.hid (HR2.out.trans r2)
  clear r1 r2 HAL
  go_wp2_with fail
  refine(HP1.out w3).mono ?_
  rintro e w4 ⟨rfl,hb⟩
  have HW4:=Lib.hid (wat_below HW3.out hb)
  have HR4:=Lib.hid (wrote_grow HR3.out HW3.out.Bt hb)
  clear hb
  go_wp2_with fail
  rw[HE1.out]
  refine(HP2.out w4).mono ?_
  rintro e w5 ⟨rfl,hb⟩
  have HW5:=Lib.hid (wat_below HW4.out hb)
  have HR5:=Lib.hid (wrote_grow HR4.out HW4.out.Bt hb)
  clear hb
  have HAD:=Lib.hid (add_calls base B o v3 (padB (bs++kindB 0 false)) (storedS s) w5 HW5.out (by omega) (by omega) (by omega))
  rw[HST.out]at HAD
  go_wp2_with fail
  refine HAD.out.mono ?_
  rintro e w6 ⟨rfl,v6,r1,r2⟩
  have HF1:Hid (WAt w6 base B o v6 (storedB bs false s)):=Lib.hid (by
   unfold storedB
   rw[HST.out]
   rw[padB_padB]at r1
   exact r1)
  have HF2:=Lib.hid (HR5.out.trans r2)
  clear r1 r2 HAD
  go_wp2
  go_ret
  exact⟨rfl,v6,HF1.out,HF2.out⟩
 | true =>
  go_enter Tryz.func73,Tryz.ntmps73
  go_wp2_with fail
  refine HM.out.mono ?_
  rintro e w1 ⟨rfl,hb⟩
  have HW1:=Lib.hid (wat_below HW0.out hb)
  have HR1:=Lib.hid (wrote_grow (Wrote.refl B o v w) HW0.out.Bt hb)
  have HCW:=Lib.hid (write_any base B o v bs 1 3 w1 HW1.out (by omega) (by omega) (by omega))
  clear hb
  go_wp2_with fail
  refine HCW.out.mono ?_
  rintro e w2 ⟨rfl,v2,r1,r2⟩
  have HW2:Hid (WAt w2 base B o v2 (bs++kindB 0 true)):=Lib.hid (by rw[HKV.out];exact r1)
  have HR2:=Lib.hid (HR1.out.trans r2)
  have hkl:(bs++kindB 0 true).length≤10000000003:=by rw[List.length_append,kindB_len];omega
  have HAL:=Lib.hid (align_calls base B o v2 (bs++kindB 0 true) w2 HW2.out (by omega))
  clear r1 r2 HCW HW1 HR1
  go_wp2_with fail
  refine HAL.out.mono ?_
  rintro e w3 ⟨rfl,v3,r1,r2⟩
  have hpl:=padB_le (bs++kindB 0 true)
  have HW3:=Lib.hid r1
  have HR3:=Lib.hid (HR2.out.trans r2)
  clear r1 r2 HAL
  go_wp2_with fail
  refine(HP1.out w3).mono ?_
  rintro e w4 ⟨rfl,hb⟩
  have HW4:=Lib.hid (wat_below HW3.out hb)
  have HR4:=Lib.hid (wrote_grow HR3.out HW3.out.Bt hb)
  clear hb
  go_wp2_with fail
  rw[HE1.out]
  refine(HP2.out w4).mono ?_
  rintro e w5 ⟨rfl,hb⟩
  have HW5:=Lib.hid (wat_below HW4.out hb)
  have HR5:=Lib.hid (wrote_grow HR4.out HW4.out.Bt hb)
  clear hb
  have HAD:=Lib.hid (add_calls base B o v3 (padB (bs++kindB 0 true)) (storedS s) w5 HW5.out (by omega) (by omega) (by omega))
  rw[HST.out]at HAD
  go_wp2_with fail
  refine HAD.out.mono ?_
  rintro e w6 ⟨rfl,v6,r1,r2⟩
  have HF1:Hid (WAt w6 base B o v6 (storedB bs true s)):=Lib.hid (by
   unfold storedB
   rw[HST.out]
   rw[padB_padB]at r1
   exact r1)
  have HF2:=Lib.hid (HR5.out.trans r2)
  clear r1 r2 HAD
  go_wp2
  go_ret
  exact⟨rfl,v6,HF1.out,HF2.out⟩
end Go.Proofs.YtgiogemkomgkhaaGreatDoor.Bk
