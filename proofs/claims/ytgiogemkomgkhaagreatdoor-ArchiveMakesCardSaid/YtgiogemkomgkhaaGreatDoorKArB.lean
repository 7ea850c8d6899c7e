/-
  archive.New: a maker of files, which it has for itself.
-/
import Derived.Test.YtgiogemkomgkhaaGreatDoorKArFile
import Derived.Test.YtgiogemkomgkhaaGreatDoorKNm
set_option linter.unusedVariables false
set_option linter.unusedSimpArgs false
namespace Go.Proofs.YtgiogemkomgkhaaGreatDoor.Ar
open Go.RowKit Go.Shelf Mg Zp YtgiogemkomgkhaaGreatDoor.Nm Df Cr Bk Mt Ri Rf
noncomputable def moreP (level:Nat) (fs:List Fl) (st:Mst):Bool×Mst :=
 match fs[st.k]? with
 | some f=>(true,⟨st.k+1,st.pos+(fileS level f st.pos).size,st.hs ++ [headF level f st.pos],fileS level f st.pos,st.tail⟩)
 | none=>if st.tail then(false,st) else(true,⟨st.k,st.pos,st.hs,tailS st.hs,true⟩)
noncomputable def nextP (level:Nat) (fs:List Fl) (st:Mst):(ByteArray×Bool)×Mst :=
 if st.rest.size=0 then
  (if (moreP level fs st).1 then(((moreP level fs st).2.rest.extract 0 (min (moreP level fs st).2.rest.size 256),true),{ (moreP level fs st).2 with rest:=(moreP level fs st).2.rest.extract (min (moreP level fs st).2.rest.size 256) (moreP level fs st).2.rest.size })
  else((⟨#[]⟩,false),st))
 else((st.rest.extract 0 (min st.rest.size 256),true),{ st with rest:=st.rest.extract (min st.rest.size 256) st.rest.size })
structure Fair (level:Nat) (fs:List Fl) (st:Mst):Prop where
 n:fs.length≤500
 ok:∀ f∈fs,f.ok
 k:st.k≤fs.length
 pos:st.pos≤1100000*st.k
 len:st.hs.length=st.k
 fine:∀ h∈st.hs,FineH h
 rest:st.rest.size≤600000000
theorem tail_size (hs:List Hd) (hf:∀ h∈hs,FineH h) (hn:hs.length≤500):(tailS hs).size≤600000000:=by
 unfold tailS
 have h1:=catL_len hs (fun x hx=>(hf x hx).c)
 have h2:=endS_le hs.length (catL hs).length (tailAt hs 0)
 rw[ByteArray.size_append]
 have h3:(⟨(catL hs).toArray⟩:ByteArray).size=(catL hs).length:=by simp[ByteArray.size]
 rw[h3]
 omega
theorem Fair.more {level:Nat} {fs:List Fl} {st:Mst} (h:Fair level fs st):Fair level fs (moreP level fs st).2:=by
 unfold moreP
 split
 ·rename_i f hf
  have hlt:=(List.getElem?_eq_some_iff.1 hf).1
  have hok:=h.ok f (List.mem_of_getElem? hf)
  have hp:=h.pos
  have hn:=h.n
  have hs:=file_size level f st.pos hok (by omega)
  refine⟨hn,h.ok,hlt,?_,?_,?_,?_⟩
  ·show st.pos+(fileS level f st.pos).size≤1100000*(st.k+1)
   omega
  ·show(st.hs ++ [headF level f st.pos]).length=st.k+1
   simp[h.len]
  ·intro x hx
   rcases List.mem_append.1 hx with hx|hx
   ·exact h.fine x hx
   ·rw[List.mem_singleton.1 hx]
    exact(head_fine level f st.pos hok (by omega)).1
  ·show(fileS level f st.pos).size≤600000000
   omega
 ·split
  ·exact h
  ·exact⟨h.n,h.ok,h.k,h.pos,h.len,h.fine,tail_size st.hs h.fine (by have:=h.len;have:=h.k;have:=h.n;omega)⟩
def MoreAt (lo m T level:Nat) (fs:List Fl) (vf:Value) (st:Mst) (vh:Value) (w:World) (e:Ending) (w':World):Prop :=
 ∃ vh',e= .returned (.bool (moreP level fs st).1)∧MkAt w' lo m T level fs vf (moreP level fs st).2 vh'∧Moved m vh w w'∧∀ g,vh'.ownBlock=some g→vh.ownBlock=some g∨w.heap.size≤g
theorem MkAt.put {w:World} {lo m T level:Nat} {fs:List Fl} {vf vh:Value} {st st':Mst} (h:MkAt w lo m T level fs vf st vh) (j:Nat) (v:Value)
  (hb:(#[vf,.int .i64 level,.pointer (some ⟨T,0,none⟩),.int .i64 st.k,.int .i64 st.pos,vh,.string st.rest,.bool st.tail]:Array Value).setIfInBounds j v= #[vf,.int .i64 level,.pointer (some ⟨T,0,none⟩),.int .i64 st'.k,.int .i64 st'.pos,vh,.string st'.rest,.bool st'.tail]) (hh:st'.hs=st.hs) :
  MkAt (w.setCell ⟨m,j,none⟩ v) lo m T level fs vf st' vh:=by
 refine⟨h.blk.setTo j v hb,?_,h.tab.heap (Below.heap_setCell w ⟨m,j,none⟩ v T (by show T≠m;have:=h.tT;omega)),h.tT,?_⟩
 ·rw[hh]
  exact own_same h.row (fun i hi=>Below.heap_setCell w ⟨m,j,none⟩ v i (fun e=>by have e2:i=m:=e;have:=(h.row.lt i hi).1;omega))
 ·obtain⟨A,c,e,h1,h2⟩:=h.fs
  refine⟨A,c,e,fun i hi=>?_,h2⟩
  obtain⟨g,o,e2,h3⟩:=h1 i hi
  refine⟨g,o,e2,?_⟩
  have:=h2 g o e2
  rw[World.cell?_of_block (a:=⟨g,o+i,none⟩) (Below.heap_setCell w ⟨m,j,none⟩ v g (by show g≠m;omega))]
  exact h3
theorem MkAt.below {w w':World} {lo m T level:Nat} {fs:List Fl} {vf vh:Value} {st:Mst} (h:MkAt w lo m T level fs vf st vh) (hb:Below w.heap.size w w'):MkAt w' lo m T level fs vf st vh:=by
 refine⟨h.blk.below hb,own_below h.row hb,h.tab.below hb,h.tT,?_⟩
 obtain⟨A,c,e,h1,h2⟩:=h.fs
 exact⟨A,c,e,h1.below hb,h2⟩
theorem MkAt.lo_le {w:World} {lo m T level:Nat} {fs:List Fl} {vf vh:Value} {st:Mst} (h:MkAt w lo m T level fs vf st vh):lo≤m∧lo≤w.heap.size∧∀ g,vh.ownBlock=some g→lo≤g:=by
 have h1:=h.tT
 have h2:=h.blk.lt
 exact⟨by omega,by omega,fun g hg=>by have:=(h.row.lt g hg).1;omega⟩
theorem MkAt.drewN {w:World} {lo m T level:Nat} {fs:List Fl} {vf vh:Value} {st:Mst} (h:MkAt w lo m T level fs vf st vh) (q:Nat):MkAt (w.drewN q) lo m T level fs vf st vh:=by
 induction q generalizing w with
 | zero=>exact h
 | succ q ih=>rw[← World.drew_drewN];have h:=ih h;exact⟨h.blk,h.row,h.tab,h.tT,h.fs⟩
set_option maxHeartbeats 8000000 in
set_option maxRecDepth 100000 in
theorem more_calls (lo m T level:Nat) (fs:List Fl) (vf:Value) (st:Mst) (vh:Value) (w:World) (hM:MkAt w lo m T level fs vf st vh) (hF:Fair level fs st) (hG:Globs lo w) (hl:level≤9) :
  Calls Tryz.prog 22 #[.pointer (some ⟨m,0,none⟩)] w fun e w'=>MoreAt lo m T level fs vf st vh w e w':=by
 obtain⟨k,pos,hs,rest,tail⟩:=st
 have HM:=Lib.hid hM
 have HFF:=Lib.hid hF
 have HG:=Lib.hid hG
 obtain⟨A,c,hvf, -, -⟩:=hM.fs
 have c0:=hM.blk.cell 0
 have c3:=hM.blk.cell 3
 have c7:=hM.blk.cell 7
 have f6:=hM.blk.frozen 6
 have f7:=hM.blk.frozen 7
 rw[hvf]at c0
 obtain⟨n,hn⟩:∃ n,fs.length=n:=⟨_,rfl⟩
 have HN:=Lib.hid hn
 have HVF:=Lib.hid hvf
 have hkn:k≤n:=by have:=hF.k;rw[← hn];exact this
 have hn5:n≤500:=by have:=hF.n;rw[← hn];exact this
 rw[hn]at c0
 clear hM hF hG hn hvf
 go_enter Tryz.func22,Tryz.ntmps22
 go_upto_region 2 with fail
 go_quiet (fail)
 generalize hW:World.drewN _ _=w1
 have HM1:Hid (MkAt w1 lo m T level fs vf ⟨k,pos,hs,rest,tail⟩ vh):=Lib.hid (by rw[← hW];exact HM.out.drewN _)
 have hb1:Below w.heap.size w w1:=by rw[← hW];exact Go.below_drewN (Below.refl _ _) _
 have HV1:=Lib.hid ((Moved.refl m vh w).next hb1)
 have HG1:=Lib.hid (HG.out.below (hb1.mono HM.out.lo_le.2.1))
 have hsz1:=hb1.size
 clear hW hb1 c0 c3 c7 f6 f7
 have c7:=HM1.out.blk.cell 7
 have f7:=HM1.out.blk.frozen 7
 by_cases hlt:k<n
 ·have q1:decide (k<n)=true:=decide_eq_true hlt
  obtain⟨f,hf⟩:∃ f,fs[k]?=some f:=⟨_,List.getElem?_eq_getElem (by rw[HN.out];exact hlt)⟩
  have hok:=HFF.out.ok f (List.mem_of_getElem? hf)
  have HP:Hid (moreP level fs ⟨k,pos,hs,rest,tail⟩=(true,⟨k+1,pos+(fileS level f pos).size,hs ++ [headF level f pos],fileS level f pos,tail⟩)):=Lib.hid (by unfold moreP;simp only;rw[hf])
  obtain⟨nm,⟨ty,tmo,td,th,tmi,ts⟩,da⟩:=f
  have HFC:=Lib.hid (file_calls lo m T level fs vf k pos hs rest tail vh w1 HM1.out nm da ty tmo td th tmi ts hf HG1.out hl (by have:=HFF.out.pos;have:pos≤1100000*k:=this;omega) hok (by have:hs.length=k:=HFF.out.len;omega) (by rw[HN.out];omega) hok.d)
  clear hf hok c7 f7
  go_wp2_with fail
  refine HFC.out.mono ?_
  rintro e w2 ⟨vh2,rfl,hm2,hv2,hf2⟩
  have HM2:=Lib.hid hm2
  have HV2:Hid (Moved m vh w w2):=Lib.hid (HV1.out.trans hv2)
  have HFR:Hid (∀ g,vh2.ownBlock=some g→vh.ownBlock=some g∨w.heap.size≤g):=Lib.hid (fun g hg=>(hf2 g hg).imp id (fun h=>by omega))
  have c6:=hm2.blk.cell 6
  have f6:=hm2.blk.frozen 6
  obtain⟨S,hS⟩:∃ S,fileS level ⟨nm,⟨ty,tmo,td,th,tmi,ts⟩,da⟩ pos=S:=⟨_,rfl⟩
  rw[hS]at HM2 HP
  rw[hS]
  clear hm2 hv2 hf2 hS
  go_wp2
  go_ret
  refine⟨vh2,by rw[HP.out]<;>rfl,?_,HV2.out.set 6 _,HFR.out⟩
  rw[HP.out]
  exact HM2.out.put 6 _ rfl rfl
 ·have q1:decide (k<n)=false:=decide_eq_false hlt
  have hnone:fs[k]?=none:=List.getElem?_eq_none (by rw[HN.out];omega)
  cases tail with
  | true =>
   have HP:Hid (moreP level fs ⟨k,pos,hs,rest,true⟩=(false,⟨k,pos,hs,rest,true⟩)):=Lib.hid (by unfold moreP;simp only;rw[hnone];rfl)
   clear hnone f7
   go_wp2
   go_ret
   exact⟨vh,by rw[HP.out]<;>rfl,by rw[HP.out];exact HM1.out,HV1.out,fun g hg=> .inl hg⟩
  | false =>
   have HP:Hid (moreP level fs ⟨k,pos,hs,rest,false⟩=(true,⟨k,pos,hs,tailS hs,true⟩)):=Lib.hid (by unfold moreP;simp only;rw[hnone];rfl)
   obtain⟨A',c',rfl⟩:=own_form HM1.out.row
   go_upto_region 6 with fail
   clear hnone c7 f7
   have HM2:Hid (MkAt (w1.setCell ⟨m,7,none⟩ (.bool true)) lo m T level fs vf ⟨k,pos,hs,rest,true⟩ (.slice A' hs.length c')):=Lib.hid (HM1.out.put 7 _ rfl rfl)
   have HV2:=Lib.hid (HV1.out.set 7 (.bool true))
   obtain⟨w2,hw2⟩:∃ w2,w1.setCell ⟨m,7,none⟩ (.bool true)=w2:=⟨_,rfl⟩
   rw[hw2]at HM2 HV2
   rw[hw2]
   have hT2:Tabs w2:=(HG1.out.below (by rw[← hw2];exact(Below.refl _ _).setCell (p:=⟨m,7,none⟩) HM1.out.lo_le.1 _)).here.2.2
   have HTC:=Lib.hid (tail_calls A' c' hs w2 (cels_own HM2.out.row) (by have:hs.length=k:=HFF.out.len;omega) HFF.out.fine hT2)
   have c5:=HM2.out.blk.cell 5
   clear hw2 hT2
   go_wp2_with fail
   refine HTC.out.mono ?_
   rintro e w3 ⟨rfl,hb3⟩
   have HM3:=Lib.hid (HM2.out.below hb3)
   have HV3:=Lib.hid (HV2.out.next hb3)
   have c6:=HM3.out.blk.cell 6
   have f6:=HM3.out.blk.frozen 6
   clear hb3 c5
   go_wp2
   go_ret
   refine⟨_,by rw[HP.out]<;>rfl,?_,HV3.out.set 6 _,fun g hg=> .inl hg⟩
   rw[HP.out]
   exact HM3.out.put 6 _ rfl rfl
theorem Fair.next {level:Nat} {fs:List Fl} {st:Mst} (h:Fair level fs st):Fair level fs (nextP level fs st).2:=by
 have hm:=h.more
 unfold nextP
 split
 ·split
  ·exact⟨hm.n,hm.ok,hm.k,hm.pos,hm.len,hm.fine,by have:=hm.rest;rw[ByteArray.size_extract];omega⟩
  ·exact h
 ·exact⟨h.n,h.ok,h.k,h.pos,h.len,h.fine,by have:=h.rest;rw[ByteArray.size_extract];omega⟩
def NextAt (lo m T level:Nat) (fs:List Fl) (vf:Value) (st:Mst) (vh:Value) (w:World) (e:Ending) (w':World):Prop :=
 ∃ vh',e= .returned (.tuple #[.string (nextP level fs st).1.1,.bool (nextP level fs st).1.2])∧MkAt w' lo m T level fs vf (nextP level fs st).2 vh'∧Moved m vh w w'∧∀ g,vh'.ownBlock=some g→vh.ownBlock=some g∨w.heap.size≤g
theorem empty_iff (s:ByteArray):s.toList.isEmpty=decide (s.size=0):=by
 rw[Lib.toList_data,Bool.eq_iff_iff,decide_eq_true_eq,List.isEmpty_iff]
 exact⟨fun h=>by have:=congrArg List.length h;simpa using this,fun h=>List.length_eq_zero_iff.1 (by simpa using h)⟩
set_option maxHeartbeats 8000000 in
set_option maxRecDepth 100000 in
theorem mnext_calls (lo m T level:Nat) (fs:List Fl) (vf:Value) (st:Mst) (vh:Value) (w:World) (hM:MkAt w lo m T level fs vf st vh) (hF:Fair level fs st) (hG:Globs lo w) (hl:level≤9) :
  Calls Tryz.prog 11 #[.pointer (some ⟨m,0,none⟩)] w fun e w'=>NextAt lo m T level fs vf st vh w e w':=by
 have HM:=Lib.hid hM
 have HFF:=Lib.hid hF
 have HMC:=Lib.hid (more_calls lo m T level fs vf st vh w hM hF hG hl)
 have c6:=hM.blk.cell 6
 obtain⟨R0,hR0⟩:∃ R0,st.rest=R0:=⟨_,rfl⟩
 have HR0:=Lib.hid hR0
 have he:=empty_iff R0
 have hsr:R0.size≤600000000:=by rw[← hR0];exact hF.rest
 rw[hR0]at c6
 clear hM hF hG hR0
 by_cases h0:R0.size=0
 ·rw[decide_eq_true h0]at he
  go_enter Tryz.func11,Tryz.ntmps11
  go_wp2_with fail
  refine HMC.out.mono ?_
  rintro e w1 ⟨vh1,rfl,hm1,hv1,hf1⟩
  have HM1:=Lib.hid hm1
  have HV1:=Lib.hid hv1
  have HF1:=Lib.hid hf1
  clear hm1 hv1 hf1 c6 he
  cases hmo:(moreP level fs st).1 with
  | false =>
   have HP:Hid (nextP level fs st=((⟨#[]⟩,false),st)):=Lib.hid (by unfold nextP;rw[HR0.out,if_pos h0,hmo];rfl)
   have HS:Hid ((moreP level fs st).2=st):=Lib.hid (by
    unfold moreP at hmo ⊢
    split at hmo
    ·cases hmo
    ·split at hmo
     ·rename_i h2 h3;rw[if_pos h3]
     ·cases hmo)
   clear hmo
   go_wp2
   go_ret2
   exact⟨vh1,by rw[HP.out]<;>rfl,by rw[HP.out];rw[HS.out]at HM1;exact HM1.out,HV1.out,HF1.out⟩
  | true =>
   obtain⟨st1,hs1⟩:∃ st1,(moreP level fs st).2=st1:=⟨_,rfl⟩
   have hF1:=HFF.out.more
   rw[hs1]at HM1 hF1
   obtain⟨R,hR⟩:∃ R,st1.rest=R:=⟨_,rfl⟩
   obtain⟨k,hk⟩:∃ k,min R.size 256=k:=⟨_,rfl⟩
   have HP:Hid (nextP level fs st=((R.extract 0 k,true),{ st1 with rest:=R.extract k R.size })):=Lib.hid (by unfold nextP;rw[HR0.out,if_pos h0,hmo,if_pos rfl,hs1,hR,hk])
   have HRR:=Lib.hid hR
   have c6:=HM1.out.blk.cell 6
   have f6:=HM1.out.blk.frozen 6
   rw[hR]at c6
   have hsz:R.size≤600000000:=by rw[← hR];exact hF1.rest
   have ek:min (R.size:Int) 256=(k:Int):=by omega
   have hkl:k≤R.size:=by omega
   have k0:(0:Int)≤(k:Int):=by omega
   have k1:(k:Int)≤(R.size:Int):=by omega
   have k2:decide ((k:Int)≤(R.size:Int))=true:=decide_eq_true k1
   have k3:decide (k≤R.size)=true:=decide_eq_true hkl
   clear hmo hs1 hF1 hR hk
   go_wp2
   go_ret2
   refine⟨vh1,by rw[HP.out]<;>rfl,?_,HV1.out.set 6 _,HF1.out⟩
   rw[HP.out]
   exact HM1.out.put 6 _ rfl rfl
 ·rw[decide_eq_false h0]at he
  obtain⟨k,hk⟩:∃ k,min R0.size 256=k:=⟨_,rfl⟩
  have HP:Hid (nextP level fs st=((R0.extract 0 k,true),{ st with rest:=R0.extract k R0.size })):=Lib.hid (by unfold nextP;rw[HR0.out,if_neg h0,hk])
  have f6:=HM.out.blk.frozen 6
  have ek:min (R0.size:Int) 256=(k:Int):=by omega
  have hkl:k≤R0.size:=by omega
  have k0:(0:Int)≤(k:Int):=by omega
  have k1:(k:Int)≤(R0.size:Int):=by omega
  have k2:decide ((k:Int)≤(R0.size:Int))=true:=decide_eq_true k1
  have k3:decide (k≤R0.size)=true:=decide_eq_true hkl
  clear hk
  go_enter Tryz.func11,Tryz.ntmps11
  go_wp2
  go_ret2
  refine⟨vh,by rw[HP.out]<;>rfl,?_,(Moved.refl m vh w).set 6 _,fun g hg=> .inl hg⟩
  rw[HP.out]
  exact HM.out.put 6 _ rfl rfl
end Go.Proofs.YtgiogemkomgkhaaGreatDoor.Ar
namespace Go.Proofs.YtgiogemkomgkhaaGreatDoor.Ar
open Go.RowKit Go.Shelf Mg Zp YtgiogemkomgkhaaGreatDoor.Nm Df Cr Bk Mt Ri Rf Bw
def namesF (fs:List Fl):List ByteArray:=fs.map Fl.name
def badT (fs:List Fl):Option Nat:=(List.range fs.length).find? fun i=>match fs[i]? with|some f=> !tgood f.t|none=>false
def timeP (fs:List Fl):Int×Int:=match badT fs with
 | some i=>((i:Int),13)
 | none=>(0,0)
def checkP (fs:List Fl) (level:Int):Int×Int :=
 if level<0∨9<level then(0,1)
 else if (allB (namesF fs)).2≠0 then allB (namesF fs)
 else timeP fs
theorem badT_some (fs:List Fl) (k:Nat) (f:Fl) (hk:fs[k]?=some f) (hb:tgood f.t=false) (hg:∀ j (h:j<fs.length),j<k→tgood fs[j].t=true):badT fs=some k:=by
 have hkl:=(List.getElem?_eq_some_iff.1 hk).1
 unfold badT
 rw[List.find?_range_eq_some]
 refine⟨by rw[hk];simp[hb],by simpa using hkl,fun j hj=>?_⟩
 have hjl:j<fs.length:=by omega
 rw[List.getElem?_eq_getElem hjl]
 simp[hg j hjl hj]
theorem badT_none (fs:List Fl) (hg:∀ j (h:j<fs.length),tgood fs[j].t=true):badT fs=none:=by
 unfold badT
 rw[List.find?_eq_none]
 intro j hj
 have hjl:j<fs.length:=by simpa using hj
 rw[List.getElem?_eq_getElem hjl]
 simp[hg j hjl]
def strC (s:ByteArray):List Value:= [.string s]
theorem strC_len (s:ByteArray):(strC s).length=1:=rfl
theorem strs_cells {w:World} {A:Option Addr} {xs:List ByteArray} (h:Cels w A (xs.flatMap strC)):∀ j (hj:j<xs.length),∃ b o,A=some ⟨b,o,none⟩∧w.cell? ⟨b,o+j,none⟩=some (.string xs[j]):=fun j hj=>by
 obtain⟨g,o,e,hc⟩:=h.of strC_len (by decide) j xs[j] (List.getElem?_eq_getElem hj)
 have:=hc 0 _ rfl
 rw[Nat.mul_one,Nat.add_zero]at this
 exact⟨g,o,e,this⟩
noncomputable def tst:TypeInfo:=(Tryz.prog.info? 9).getD default
theorem tst_info:Tryz.prog.info? 9=some tst:=by kernel_rfl
theorem tst_zero:tst.zero=some (.string ⟨#[]⟩):=by kernel_rfl
theorem tst_size:tst.size=1:=by kernel_rfl
theorem tst_bytes:tst.bytes=16:=by kernel_rfl
set_option maxHeartbeats 8000000 in
set_option maxRecDepth 100000 in
theorem check_calls (A:Option Addr) (c:Nat) (fs:List Fl) (level:Int) (w:World) (hA:Cels w A (fs.flatMap flC)) (hn:fs.length≤500) (hs:∀ f∈fs,f.name.size≤140737488351232∧f.data.size≤1000000) (hT:Tabs w) :
  Calls Tryz.prog 12 #[.slice A fs.length c,.int .i64 level] w fun e w'=>e= .returned (.tuple #[.int .i64 (checkP fs level).1,.int .i64 (checkP fs level).2])∧Below w.heap.size w w':=by
 have HA:=Lib.hid hA
 have HS:=Lib.hid hs
 have HT:=Lib.hid hT
 obtain⟨n,hn0⟩:∃ n,fs.length=n:=⟨_,rfl⟩
 have HN:=Lib.hid hn0
 rw[hn0]at hn
 rw[hn0]
 clear hA hs hT hn0
 by_cases hlev:level<0∨9<level
 ·have HP:Hid (checkP fs level=(0,1)):=Lib.hid (by unfold checkP;rw[if_pos hlev])
  by_cases hl0:level<0
  ·have q1:decide (level<0)=true:=decide_eq_true hl0
   clear hlev
   go_enter Tryz.func12,Tryz.ntmps12
   go_wp2
   go_ret2
   exact⟨by rw[HP.out]<;>rfl,Below.refl _ _⟩
  ·have q1:decide (level<0)=false:=decide_eq_false hl0
   have q2:decide (9<level)=true:=decide_eq_true (by omega)
   clear hlev
   go_enter Tryz.func12,Tryz.ntmps12
   go_wp2
   go_ret2
   exact⟨by rw[HP.out]<;>rfl,Below.refl _ _⟩
 ·have q1:decide (level<0)=false:=decide_eq_false (by omega)
  have q2:decide (9<level)=false:=decide_eq_false (by omega)
  have HP:Hid (checkP fs level=if (allB (namesF fs)).2≠0 then allB (namesF fs) else timeP fs):=Lib.hid (by unfold checkP;rw[if_neg hlev])
  clear hlev
  go_enter Tryz.func12,Tryz.ntmps12
  go_upto_region 5 with fail
  go_loopw [6,24] (fun vn vi wr=>∃ k:Nat,k≤n∧vi= .int .i64 k∧wr.ownsRow w.heap.size 9 1 vn k ((namesF (fs.take k)).flatMap strC)∧Below w.heap.size w wr) (fun _ vi _=>n - (intOf vi).toNat)
  case atStart=>exact⟨0,Nat.zero_le _,rfl,World.ownsRow_nil _ _ _ _,Below.refl _ _⟩
  case round =>
   obtain⟨k,hk,rfl,hrow,hbl⟩:=hrel
   have HR:=Lib.hid hrow
   have HB:=Lib.hid hbl
   clear hrow hbl
   by_cases hlt:k<n
   ·have p1:decide ((k:Int)<(n:Int))=true:=decide_eq_true (by omega)
    have p1':decide (k<n)=true:=decide_eq_true hlt
    have hkl:k<fs.length:=by rw[HN.out];exact hlt
    obtain⟨g,o,rfl,hc⟩:=(HA.out.below HB.out).of flC_len (by decide) k fs[k] (List.getElem?_eq_getElem hkl)
    have HTK:Hid (namesF (fs.take (k+1))=namesF (fs.take k) ++ [fs[k].name]):=Lib.hid (by unfold namesF;rw[List.take_succ_eq_append_getElem hkl,List.map_append];rfl)
    obtain⟨f,hf⟩:∃ f,fs[k]=f:=⟨_,rfl⟩
    rw[hf]at hc HTK
    obtain⟨nm,⟨ty,tmo,td,th,tmi,ts⟩,da⟩:=f
    have d0:=hc 0 _ rfl
    have d1:=hc 1 _ rfl
    have d2:=hc 2 _ rfl
    have d3:=hc 3 _ rfl
    have d4:=hc 4 _ rfl
    have d5:=hc 5 _ rfl
    have d6:=hc 6 _ rfl
    have d7:=hc 7 _ rfl
    simp only[Nat.add_zero]at d0
    have i0:(0:Int)≤(k:Int):=by omega
    have i1:(k:Int)<(n:Int):=by omega
    clear hc hf
    go_upto_region 7 with fail
    have hal:Below wr.heap.size wr (wr.alloc (.cells #[.string nm,.int .i64 ty,.int .i64 tmo,.int .i64 td,.int .i64 th,.int .i64 tmi,.int .i64 ts,.string da] 42)):=(Below.refl _ _).alloc (Nat.le_refl _) _
    have KF:=Blk.new wr #[.string nm,.int .i64 ty,.int .i64 tmo,.int .i64 td,.int .i64 th,.int .i64 tmi,.int .i64 ts,.string da] 42
    have HR5:=Lib.hid (own_below HR.out hal)
    have HB5:=Lib.hid (HB.out.trans (hal.mono HB.out.size))
    obtain⟨K,hK⟩:∃ K,wr.heap.size=K:=⟨_,rfl⟩
    obtain⟨w5,hw5⟩:∃ w5,wr.alloc (.cells #[.string nm,.int .i64 ty,.int .i64 tmo,.int .i64 td,.int .i64 th,.int .i64 tmi,.int .i64 ts,.string da] 42)=w5:=⟨_,rfl⟩
    rw[hK]at KF
    rw[hw5]at KF HR5 HB5
    rw[hw5,hK]
    have c0:=KF.cell 0
    have hbz:=HB5.out.size
    clear hw5 hK hal KF d0 d1 d2 d3 d4 d5 d6 d7
    go_wp2_with (at_builtin;refine wpList_append_at _ rfl _ _ 30 rfl w.heap.size 9 tst (.string ⟨#[]⟩) 1 16 Tryz.underlying30 tst_info tst_zero tst_size tst_bytes rfl (by decide) _ _ _ rfl (HR5.out.alloc _) ⟨w5.heap.size,0,none⟩ 1 1 (strC nm) rfl rfl ?c1 ?c2 ?c3 ?c4 ?c5 ?_)
    case c1=>intro j u hu;exact hu
    case c2=>intro u hu;rw[List.mem_singleton.1 hu];rfl
    case c3=>unfold maxLen;omega
    case c4=>omega
    case c5=>first|omega|(simp;omega)
    intro v7 w7 hown1 hg1 hfr
    have HR7:Hid (w7.ownsRow w.heap.size 9 1 v7 (k+1) ((namesF (fs.take (k+1))).flatMap strC)):=Lib.hid (by
     rw[HTK.out,List.flatMap_append]
     exact hown1)
    have HB7:Hid (Below w.heap.size w w7):=Lib.hid ((HB5.out.alloc HB5.out.size _).grown hg1 (by simp;omega) (fun r e=>(HR5.out.lt r e).1))
    clear hown1 hg1 hfr hbz c0
    go_wp2
    go_roundw
    case rel=>exact⟨k+1,by omega,by go_num,HR7.out,HB7.out⟩
    case measure=>simp[intOf];omega
   ·obtain rfl:k=n:=by omega
    have p1:decide ((k:Int)<(k:Int))=false:=decide_eq_false (by omega)
    have p1':decide (k<k)=false:=decide_eq_false (by omega)
    have hall:fs.take k=fs:=List.take_of_length_le (by rw[HN.out];exact Nat.le_refl _)
    rw[hall]at HR
    clear hall
    obtain⟨A',c',rfl⟩:=own_form HR.out
    have hnl:(namesF fs).length=k:=by unfold namesF;rw[List.length_map];exact HN.out
    have HALL:=Lib.hid (all_calls A' c' (namesF fs) wr (HT.out.below HB.out) (by omega) (fun x hx=>by obtain⟨f,hf,rfl⟩:=List.mem_map.1 hx;exact(HS.out f hf).1) (strs_cells (cels_own HR.out)))
    rw[hnl]at HALL
    clear hnl
    go_wp2_with fail
    refine HALL.out.mono ?_
    rintro e w2 ⟨rfl,hb2⟩
    have HB2:=Lib.hid (HB.out.trans (hb2.mono HB.out.size))
    obtain⟨a1,a2,ha⟩:∃ a1 a2,allB (namesF fs)=(a1,a2):=⟨_,_,rfl⟩
    rw[ha]
    rw[ha]at HP
    clear hb2 ha HALL p1 p1'
    by_cases hbad:a2=0
    ·have q3:(a2 == 0)=true:=beq_iff_eq.2 hbad
     have q4:(a2 != 0)=false:=by rw[hbad];rfl
     have HP2:Hid (checkP fs level=timeP fs):=Lib.hid (by rw[HP.out,if_neg (by simpa using hbad)])
     clear hbad
     go_upto_region 13 with fail
     go_loopw [45] (fun vi wr=>∃ j:Nat,j≤k∧vi= .int .i64 j∧(∀ i (h:i<fs.length),i<j→tgood fs[i].t=true)∧Below w.heap.size w wr) (fun vi _=>k - (intOf vi).toNat)
     case atStart=>exact⟨0,Nat.zero_le _,rfl,fun i h h2=>by omega,HB2.out⟩
     case round =>
      obtain⟨j,hj,rfl,hgd,hbl⟩:=hrel
      have HGD:=Lib.hid hgd
      have HB3:=Lib.hid hbl
      clear hgd hbl
      by_cases hlt:j<k
      ·have p1:decide ((j:Int)<(k:Int))=true:=decide_eq_true (by omega)
       have p1':decide (j<k)=true:=decide_eq_true hlt
       have hjl:j<fs.length:=by rw[HN.out];exact hlt
       obtain⟨g,o,rfl,hc⟩:=(HA.out.below HB3.out).of flC_len (by decide) j fs[j] (List.getElem?_eq_getElem hjl)
       have HBT:=Lib.hid (fun (hb:tgood (fs[j]'hjl).t=false)=>badT_some fs j fs[j] (List.getElem?_eq_getElem hjl) hb HGD.out)
       obtain⟨f,hf⟩:∃ f,fs[j]=f:=⟨_,rfl⟩
       have HFJ:=Lib.hid hf
       rw[hf]at hc HBT
       obtain⟨nm,⟨ty,tmo,td,th,tmi,ts⟩,da⟩:=f
       have d0:=hc 0 _ rfl
       have d1:=hc 1 _ rfl
       have d2:=hc 2 _ rfl
       have d3:=hc 3 _ rfl
       have d4:=hc 4 _ rfl
       have d5:=hc 5 _ rfl
       have d6:=hc 6 _ rfl
       have d7:=hc 7 _ rfl
       simp only[Nat.add_zero]at d0
       have i0:(0:Int)≤(j:Int):=by omega
       have i1:(j:Int)<(k:Int):=by omega
       have HTG:=Lib.hid (fun W=>tgood_calls ⟨ty,tmo,td,th,tmi,ts⟩ W)
       simp only[Tm.val]at HTG
       clear hc hf
       go_wp2_with fail
       refine(HTG.out _).mono ?_
       rintro e w4 ⟨rfl,hb4⟩
       have HB4:=Lib.hid ((HB3.out.alloc HB3.out.size (.cells #[.string nm,.int .i64 ty,.int .i64 tmo,.int .i64 td,.int .i64 th,.int .i64 tmi,.int .i64 ts,.string da] 42)).trans (hb4.mono (HB3.out.alloc HB3.out.size (.cells #[.string nm,.int .i64 ty,.int .i64 tmo,.int .i64 td,.int .i64 th,.int .i64 tmi,.int .i64 ts,.string da] 42)).size))
       clear hb4 d0 d1 d2 d3 d4 d5 d6 d7
       cases hg:tgood ⟨ty,tmo,td,th,tmi,ts⟩ with
       | true =>
        go_wp2
        go_roundw
        case rel =>
         refine⟨j+1,by omega,by go_num,fun i h h2=>?_,HB4.out⟩
         rcases Nat.lt_or_ge i j with h3|h3
         ·exact HGD.out i h h3
         ·obtain rfl:i=j:=by omega
          rw[HFJ.out]
          exact hg
        case measure=>simp[intOf];omega
       | false =>
        have HP3:Hid (checkP fs level=((j:Int),13)):=Lib.hid (by rw[HP2.out,timeP,HBT.out hg])
        go_wp2
        go_ret2
        exact⟨by rw[HP3.out]<;>rfl,HB4.out⟩
      ·obtain rfl:j=k:=by omega
       have p1:decide ((j:Int)<(j:Int))=false:=decide_eq_false (by omega)
       have p1':decide (j<j)=false:=decide_eq_false (by omega)
       have HP3:Hid (checkP fs level=(0,0)):=Lib.hid (by rw[HP2.out,timeP,badT_none fs (fun i h=>HGD.out i h (by have:=HN.out;omega))])
       go_upto_region 20 with fail
       clear p1 p1'
       go_loopw [13,58] (fun vt vi wr=>∃ i s:Nat,i≤j∧vi= .int .i64 i∧vt= .int .i64 s∧s≤1000000*i∧Below w.heap.size w wr) (fun _ vi _=>j - (intOf vi).toNat)
       case atStart=>exact⟨0,0,Nat.zero_le _,rfl,rfl,Nat.le_refl _,HB3.out⟩
       case round =>
        obtain⟨i,s,hi,rfl,rfl,hsl,hbl⟩:=hrel
        have HB5:=Lib.hid hbl
        clear hbl
        by_cases hlt2:i<j
        ·have p1:decide ((i:Int)<(j:Int))=true:=decide_eq_true (by omega)
         have p1':decide (i<j)=true:=decide_eq_true hlt2
         have hil:i<fs.length:=by rw[HN.out];exact hlt2
         obtain⟨g,o,rfl,hc⟩:=(HA.out.below HB5.out).of flC_len (by decide) i fs[i] (List.getElem?_eq_getElem hil)
         have hds:=(HS.out fs[i] (List.getElem_mem hil)).2
         obtain⟨f,hf⟩:∃ f,fs[i]=f:=⟨_,rfl⟩
         rw[hf]at hc hds
         obtain⟨nm,⟨ty,tmo,td,th,tmi,ts⟩,da⟩:=f
         have d0:=hc 0 _ rfl
         have d1:=hc 1 _ rfl
         have d2:=hc 2 _ rfl
         have d3:=hc 3 _ rfl
         have d4:=hc 4 _ rfl
         have d5:=hc 5 _ rfl
         have d6:=hc 6 _ rfl
         have d7:=hc 7 _ rfl
         simp only[Nat.add_zero]at d0
         simp only at hds
         have i0:(0:Int)≤(i:Int):=by omega
         have i1:(i:Int)<(j:Int):=by omega
         obtain⟨s2,hs2⟩:∃ s2,s+da.size=s2:=⟨_,rfl⟩
         have es:(s:Int)+(da.size:Int)=(s2:Int):=by omega
         have p3:decide (1099511627776<(s2:Int))=false:=decide_eq_false (by omega)
         have HB6:=Lib.hid (HB5.out.alloc HB5.out.size (.cells #[.string nm,.int .i64 ty,.int .i64 tmo,.int .i64 td,.int .i64 th,.int .i64 tmi,.int .i64 ts,.string da] 42))
         clear hc hf
         go_wp2
         go_roundw
         case rel=>exact⟨i+1,s2,by omega,by go_num,rfl,by omega,HB6.out⟩
         case measure=>simp[intOf];omega
        ·obtain rfl:i=j:=by omega
         have p1:decide ((i:Int)<(i:Int))=false:=decide_eq_false (by omega)
         have p1':decide (i<i)=false:=decide_eq_false (by omega)
         go_wp2
         go_ret2
         exact⟨by rw[HP3.out]<;>rfl,HB5.out⟩
    ·have q3:(a2 == 0)=false:=beq_eq_false_iff_ne.2 hbad
     have q4:(a2 != 0)=true:=by simpa using hbad
     have HP2:Hid (checkP fs level=(a1,a2)):=Lib.hid (by rw[HP.out,if_pos (by simpa using hbad)])
     clear hbad
     go_wp2
     go_ret2
     exact⟨by rw[HP2.out]<;>rfl,HB2.out⟩
end Go.Proofs.YtgiogemkomgkhaaGreatDoor.Ar
namespace Go.Proofs.YtgiogemkomgkhaaGreatDoor.Ar
open Go.RowKit Go.Shelf Mg Zp YtgiogemkomgkhaaGreatDoor.Nm Df Cr Bk Mt Ri Rf Bw
noncomputable def tfl:TypeInfo:=(Tryz.prog.info? 42).getD default
theorem tfl_info:Tryz.prog.info? 42=some tfl:=by kernel_rfl
theorem tfl_zero:tfl.zero=some (.agg #[.string ⟨#[]⟩,.int .i64 0,.int .i64 0,.int .i64 0,.int .i64 0,.int .i64 0,.int .i64 0,.string ⟨#[]⟩]):=by kernel_rfl
theorem tfl_size:tfl.size=8:=by kernel_rfl
theorem tfl_bytes:tfl.bytes=80:=by kernel_rfl
theorem flC_one (fs:List Fl):∀ u∈fs.flatMap flC,u.oneCell'=true:=by
 intro u hu
 obtain⟨f,_,hf⟩:=List.mem_flatMap.1 hu
 simp only[flC,List.mem_cons,List.not_mem_nil,or_false]at hf
 rcases hf with rfl|rfl|rfl|rfl|rfl|rfl|rfl|rfl<;>rfl
theorem wpList_append_run {P:Program} {w w':World} {ops:Array Oper} {rest:List Oper} {o:Oper} {a:Act} {Q:Exit→Act→World→Prop} (hgd:o.guard=none) (s x:Operand) (t:TypeId) (ho:o.op= .call { callee:= .builtin .append,args:= #[s,x],argTypes:= #[t,t] })
  {v u v':Value} (hs:a.eval s=v) (hx:a.eval x=u) (hr:(Builtin.append_ #[t,t] o.type #[v,u]).run P w= .ok v' w') (h:wpList P ops Q rest (a.put o.dst v') w'):wpList P ops Q (o::rest) a w :=
 wpList_plain hgd fun _ hK=>wp_append_run s x t ho hs hx hr (hK _ _ h)
theorem copy_run (A:Option Addr) (c:Nat) (fs:List Fl) (w:World) (hA:Cels w A (fs.flatMap flC)) (hn:fs.length≤500) :
  ∃ A' c' w',(Builtin.append_ #[24,24] 24 #[.slice none 0 0,.slice A fs.length c]).run Tryz.prog w= .ok (.slice A' fs.length c') w'∧Below w.heap.size w w'∧Cels w' A' (fs.flatMap flC)∧∀ g o,A'=some ⟨g,o,none⟩→w.heap.size≤g∧g<w'.heap.size:=by
 cases fs with
 | nil =>
  refine⟨none,0,w,?_,Below.refl _ _,Cels.nil _ _,fun g o e=>by cases e⟩
  cases A<;>simp[Builtin.append_,run_underlying Tryz.underlying24,sizeOf,typeInfo,tfl_info,Builtin.lenOf,Builtin.firstCells,loadCells,loadCellsFrom]
 | cons f fs =>
  obtain⟨g,o,rfl, -⟩:=hA 0 (by rw[flat_len flC 8 flC_len];simp)
  obtain⟨v',w',hr,h2,h3,h4⟩:=Bw.run_append_at (P:=Tryz.prog) w w.heap.size 24 24 42 tfl _ 8 80 Tryz.underlying24 tfl_info tfl_zero tfl_size tfl_bytes rfl (by decide) (.slice none 0 0) 0 [] (World.ownsRow_nil _ _ _ _) ⟨g,o,none⟩ (f::fs).length c ((f::fs).flatMap flC) (by rw[flat_len flC 8 flC_len]) (fun j u hu=>by
   have h5:=hA.at rfl j u hu
   have e:((⟨g,o,none⟩:Addr).add j)=⟨g,o+j,none⟩:=by
    unfold Addr.add
    split<;>simp_all
   rw[e]
   exact h5) (flC_one _) (by unfold maxLen;omega) (by omega) (Nat.le_refl _)
  rw[Nat.zero_add,List.nil_append]at h2
  obtain⟨A',c',rfl⟩:=own_form h2
  refine⟨A',c',w',hr,(Below.refl _ _).grown h3 (Nat.le_refl _) (fun r e=>by cases e),cels_own h2,fun g2 o2 e=>?_⟩
  subst e
  exact h2.lt g2 rfl
def start0:Mst:=⟨0,0,[],⟨#[]⟩,false⟩
def MadeAt (level:Nat) (fs:List Fl) (w:World) (e:Ending) (w':World):Prop :=
 ∃ m T vf,e= .returned (.tuple #[.pointer (some ⟨m,0,none⟩),.int .i64 0])∧MkAt w' w.heap.size m T level fs vf start0 (.slice none 0 0)∧Below w.heap.size w w'
set_option maxHeartbeats 4000000 in
set_option maxRecDepth 100000 in
theorem new_calls (A:Option Addr) (c:Nat) (fs:List Fl) (level:Nat) (w:World) (hA:Cels w A (fs.flatMap flC)) (hn:fs.length≤500) (hs:∀ f∈fs,f.name.size≤140737488351232∧f.data.size≤1000000) (hT:Tabs w) (hc:(checkP fs level).2=0) :
  Calls Tryz.prog 10 #[.slice A fs.length c,.int .i64 (level:Int)] w fun e w'=>MadeAt level fs w e w':=by
 have HC:=Lib.hid (check_calls A c fs level w hA hn hs hT)
 obtain⟨a1,a2,ha⟩:∃ a1 a2,checkP fs level=(a1,a2):=⟨_,_,rfl⟩
 rw[ha]at HC hc
 obtain rfl:a2=0:=hc
 have HA:=Lib.hid hA
 obtain⟨n,hn0⟩:∃ n,fs.length=n:=⟨_,rfl⟩
 have HN:=Lib.hid hn0
 rw[hn0]at HC hn
 rw[hn0]
 clear hA hs hT ha hn0
 go_enter Tryz.func10,Tryz.ntmps10
 go_wp2_with fail
 refine HC.out.mono ?_
 rintro e w1 ⟨rfl,hb1⟩
 obtain⟨A',c',w2,hrun,hb2,hcel,hblk⟩:=copy_run A c fs w1 (HA.out.below hb1) (by rw[HN.out];exact hn)
 rw[HN.out]at hrun
 have HB1:=Lib.hid hb1
 have HB2:=Lib.hid (hb1.trans (hb2.mono hb1.size))
 have HCL:=Lib.hid hcel
 have HBK:=Lib.hid hblk
 have hz1:=hb1.size
 clear hb1 hb2 hcel hblk
 go_wp2_with (at_builtin;refine wpList_append_run rfl _ _ 24 rfl rfl rfl hrun ?_)
 refine(make_calls w2).mono ?_
 rintro e w3 ⟨rfl,htab,hb3⟩
 have HTB:=Lib.hid htab
 have HB3:=Lib.hid hb3
 have HX:Hid (MkAt (w3.alloc (.cells #[.slice A' n c',.int .i64 (level:Int),.pointer (some ⟨w2.heap.size,0,none⟩),.int .i64 0,.int .i64 0,.slice none 0 0,.string ⟨#[]⟩,.bool false] 73)) w.heap.size w3.heap.size w2.heap.size level fs (.slice A' n c') start0 (.slice none 0 0)):=Lib.hid (by
  have hz2:=HB2.out.size
  have hz3:=htab.lt
  have hbx:Below w3.heap.size w3 (w3.alloc (.cells #[.slice A' n c',.int .i64 (level:Int),.pointer (some ⟨w2.heap.size,0,none⟩),.int .i64 0,.int .i64 0,.slice none 0 0,.string ⟨#[]⟩,.bool false] 73)):=(Below.refl _ _).alloc (Nat.le_refl _) _
  refine⟨Blk.new _ _ _,World.ownsRow_nil _ _ _ _,htab.below hbx,⟨hz2,hz3⟩,⟨A',c',by rw[HN.out],(HCL.out.below hb3).below hbx,fun g o e=>?_⟩⟩
  have:=HBK.out g o e
  omega)
 have HB4:=Lib.hid ((HB2.out.trans (hb3.mono HB2.out.size)).alloc (HB2.out.trans (hb3.mono HB2.out.size)).size (.cells #[.slice A' n c',.int .i64 (level:Int),.pointer (some ⟨w2.heap.size,0,none⟩),.int .i64 0,.int .i64 0,.slice none 0 0,.string ⟨#[]⟩,.bool false] 73))
 clear htab hb3 hrun
 go_wp2
 go_ret2
 exact⟨w3.heap.size,w2.heap.size,.slice A' n c',rfl,HX.out,HB4.out⟩
end Go.Proofs.YtgiogemkomgkhaaGreatDoor.Ar
