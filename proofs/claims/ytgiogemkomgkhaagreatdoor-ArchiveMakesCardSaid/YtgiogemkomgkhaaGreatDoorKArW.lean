/-
  How the law's files are read as an argument.
-/
import Derived.Test.YtgiogemkomgkhaaGreatDoorKArR
import Derived.Test.YtgiogemkomgkhaaGreatDoorKZpOf
import Derived.Test.YtgiogemkomgkhaaGreatDoorKArS
import Derived.Test.YtgiogemkomgkhaaGreatDoorKNm
import Derived.Deep.Slices
import Derived.Deep.Fields
import Derived.ChangeSame
import Derived.OpenShut
import Derived.ChangeArms
set_option linter.unusedVariables false
set_option linter.unusedSimpArgs false
namespace Go.Proofs.YtgiogemkomgkhaaGreatDoor.Ar
open Go.RowKit Go.Shelf Mg Zp YtgiogemkomgkhaaGreatDoor.Nm Df Cr Bk Mt Ri Rf Bw
noncomputable def trl:TypeInfo:=(Tryz.prog.info? 63).getD default
theorem trl_info:Tryz.prog.info? 63=some trl:=by kernel_rfl
theorem trl_zero:trl.zero=some (.agg #[.string ⟨#[]⟩,.int .i64 0,.int .i64 0,.int .i64 0,.int .i64 0,.int .i64 0,.int .i64 0,.int .i64 0]):=by kernel_rfl
theorem trl_size:trl.size=8:=by kernel_rfl
theorem trl_bytes:trl.bytes=72:=by kernel_rfl
structure Raw where
 (name:ByteArray)
 (time:Int)
 (data:ByteArray)
def rawC (x:Raw):List Value:= [.string x.name,.int .i64 x.time,.string x.data]
theorem rawC_len (x:Raw):(rawC x).length=3:=rfl
def RawOk (l:List Raw):Prop:=∀ x∈l,x.name.size≤140737488351232∧x.data.size≤140737488351232∧ -9223372036854775808≤x.time∧x.time≤9223372036854775807
def MadeRows (w:World) (wr:World) (fs:List Fl) (va vb:Value):Prop :=
 fs.length≤6∧(∀ f∈fs,f.name.size≤60∧f.data.size≤600)∧wr.ownsRow w.heap.size 42 8 va fs.length (fs.flatMap flC)∧wr.ownsRow w.heap.size 63 8 vb fs.length (fs.flatMap rfC)∧Below w.heap.size w wr
def RawMade (w:World) (e:Ending) (w':World):Prop:=∃ fs va vb,e= .returned (.tuple #[va,vb])∧MadeRows w w' fs va vb
set_option maxHeartbeats 4000000 in
set_option maxRecDepth 100000 in
theorem armade_calls (A:Option Addr) (c:Nat) (l:List Raw) (w:World) (hA:Cels w A (l.flatMap rawC)) (hn:l.length≤140737488351232) (hs:RawOk l) :
  Calls Tryz.prog 7 #[.slice A l.length c] w fun e w'=>RawMade w e w':=by
 have HA:=Lib.hid hA
 have HS:=Lib.hid hs
 obtain⟨n,hn0⟩:∃ n,l.length=n:=⟨_,rfl⟩
 have HN:=Lib.hid hn0
 rw[hn0]at hn
 rw[hn0]
 clear hA hs hn0
 go_enter Tryz.func7,Tryz.ntmps7
 go_wp2
 go_loopw [4,5,6] (fun va vb vi wr=>∃ fs:List Fl,vi= .int .i64 fs.length∧fs.length≤n∧MadeRows w wr fs va vb) (fun _ _ vi _=>6 - (intOf vi).toNat)
 case atStart=>exact⟨[],rfl,by simp,by simp,by simp,World.ownsRow_nil _ _ _ _,World.ownsRow_nil _ _ _ _,Below.refl _ _⟩
 case round =>
  obtain⟨fs,rfl,hin,hm⟩:=hrel
  obtain⟨h6,hsm,ho1,ho2,hbl⟩:=hm
  obtain⟨A1,c1,rfl⟩:=own_form ho1
  obtain⟨A2,c2,rfl⟩:=own_form ho2
  obtain⟨i,hi⟩:∃ i,fs.length=i:=⟨_,rfl⟩
  have HO1:=Lib.hid ho1
  have HO2:=Lib.hid ho2
  have HB:=Lib.hid hbl
  have HSM:=Lib.hid hsm
  have HI:=Lib.hid hi
  rw[hi]at hin h6
  rw[hi]
  clear ho1 ho2 hbl hsm hi
  by_cases h1:i<n
  ·have q1:decide ((i:Int)<(n:Int))=true:=decide_eq_true (by omega)
   by_cases h2:i<6
   ·have q2:decide ((i:Int)<6)=true:=decide_eq_true (by omega)
    obtain⟨x,hx⟩:∃ x,l[i]?=some x:=⟨_,List.getElem?_eq_getElem (by rw[HN.out];exact h1)⟩
    obtain⟨g,o,rfl,hc⟩:=(HA.out.below HB.out).of rawC_len (by decide) i x hx
    have hxs:=HS.out x (List.mem_of_getElem? hx)
    obtain⟨nm,tm,da⟩:=x
    obtain⟨hs1,hs2,ht1,ht2⟩:=hxs
    have d0:=hc 0 _ rfl
    have d1:=hc 1 _ rfl
    have d2:=hc 2 _ rfl
    simp only[Nat.add_zero]at d0
    have hgw:=World.block_lt_of_cell? _ _ d0
    have D0:=Lib.hid d0
    have D2:=Lib.hid d2
    clear d0 d2 hc hx
    have i0:(0:Int)≤(i:Int):=by omega
    have i1:(i:Int)<(n:Int):=by omega
    go_wp2_with fail
    refine(of_calls _ _ ht1 ht2).mono ?_
    rintro e w1 ⟨⟨⟨ty,tmo,td,th,tmi,ts⟩,ok,rfl⟩,hb⟩
    have HB1:=Lib.hid hb
    clear hb
    simp only[Tm.val]
    go_upto_region 7 with fail
    have KD:Blk w1.heap.size #[.int .i64 ty,.int .i64 tmo,.int .i64 td,.int .i64 th,.int .i64 tmi,.int .i64 ts] 40 (w1.alloc (.cells #[.int .i64 ty,.int .i64 tmo,.int .i64 td,.int .i64 th,.int .i64 tmi,.int .i64 ts] 40)):=Blk.new w1 _ _
    have BA:=(Below.refl w1.heap.size w1).alloc (Nat.le_refl _) (.cells #[.int .i64 ty,.int .i64 tmo,.int .i64 td,.int .i64 th,.int .i64 tmi,.int .i64 ts] 40)
    obtain⟨w2,hw2⟩:∃ w2,w1.alloc (.cells #[.int .i64 ty,.int .i64 tmo,.int .i64 td,.int .i64 th,.int .i64 tmi,.int .i64 ts] 40)=w2:=⟨_,rfl⟩
    have hD1:wr.heap.size≤w1.heap.size:=HB1.out.size
    have HB2:Hid (Below wr.heap.size wr w2):=Lib.hid (by rw[← hw2];exact HB1.out.trans (BA.mono HB1.out.size))
    obtain⟨D,hD⟩:∃ D,w1.heap.size=D:=⟨_,rfl⟩
    rw[hw2]at KD
    rw[hw2,hD]
    rw[hD]at KD hD1
    clear BA hw2 hD HB1
    obtain⟨k1,hk1⟩:∃ k,k=min nm.size 60:=⟨_,rfl⟩
    have ek1:min (nm.size:Int) 60=(k1:Int):=by omega
    have el1:k1≤nm.size:=by omega
    have es1:k1≤60:=by omega
    obtain⟨k2,hk2⟩:∃ k,k=min da.size 600:=⟨_,rfl⟩
    have ek2:min (da.size:Int) 600=(k2:Int):=by omega
    have el2:k2≤da.size:=by omega
    have es2:k2≤600:=by omega
    obtain⟨nm2,hnm2⟩:∃ x,nm.extract 0 k1=x:=⟨_,rfl⟩
    obtain⟨da2,hda2⟩:∃ x,da.extract 0 k2=x:=⟨_,rfl⟩
    have hnz:nm2.size≤60:=by rw[← hnm2,ByteArray.size_extract];omega
    have hdz:da2.size≤600:=by rw[← hda2,ByteArray.size_extract];omega
    clear hk1 hk2
    obtain⟨U,f,hU,hf⟩:=worlds (fun L wx=>makeG w2 #[.string ⟨#[]⟩,.int .i64 0,.int .i64 0,.int .i64 0,.int .i64 0,.int .i64 0,.int .i64 0,.string ⟨#[]⟩] #[.string nm2,.int .i64 ty,.int .i64 tmo,.int .i64 td,.int .i64 th,.int .i64 tmi,.int .i64 ts,.string da2] 42 (L 28) (L 29) wx)
    have hfb:∀ u,Below w2.heap.size w2 (f u):=fun u=>by obtain⟨L,h⟩:=hf u;exact makeG_below h
    have hne:Nonempty U:=⟨(hU (fun _=>false) w2.drew rfl).choose⟩
    have HST:=fun {i}=>@two_stable (makeG w2 #[.string ⟨#[]⟩,.int .i64 0,.int .i64 0,.int .i64 0,.int .i64 0,.int .i64 0,.int .i64 0,.string ⟨#[]⟩] #[.string nm2,.int .i64 ty,.int .i64 tmo,.int .i64 td,.int .i64 th,.int .i64 tmi,.int .i64 ts,.string da2] 42) 28 29 i
    have hg2:g<w2.heap.size:=Nat.lt_of_lt_of_le hgw HB2.out.size
    have x0:∀ u,(f u).cell? ⟨g,o+i*3,none⟩=_:=fun u=>((hfb u).cell (p:=⟨g,o+i*3,none⟩) hg2).trans ((HB2.out.cell (p:=⟨g,o+i*3,none⟩) hgw).trans D0.out)
    have x2:∀ u,(f u).cell? ⟨g,o+i*3+2,none⟩=_:=fun u=>((hfb u).cell (p:=⟨g,o+i*3+2,none⟩) hg2).trans ((HB2.out.cell (p:=⟨g,o+i*3+2,none⟩) hgw).trans D2.out)
    have y0:∀ u,(f u).cell? ⟨D,0,none⟩=_:=fun u=>(KD.below (hfb u)).cell 0
    have y1:∀ u,(f u).cell? ⟨D,1,none⟩=_:=fun u=>(KD.below (hfb u)).cell 1
    have y2:∀ u,(f u).cell? ⟨D,2,none⟩=_:=fun u=>(KD.below (hfb u)).cell 2
    have y3:∀ u,(f u).cell? ⟨D,3,none⟩=_:=fun u=>(KD.below (hfb u)).cell 3
    have y4:∀ u,(f u).cell? ⟨D,4,none⟩=_:=fun u=>(KD.below (hfb u)).cell 4
    have y5:∀ u,(f u).cell? ⟨D,5,none⟩=_:=fun u=>(KD.below (hfb u)).cell 5
    refine wp_region_mix (fun L wx=>makeG w2 #[.string ⟨#[]⟩,.int .i64 0,.int .i64 0,.int .i64 0,.int .i64 0,.int .i64 0,.int .i64 0,.string ⟨#[]⟩] #[.string nm2,.int .i64 ty,.int .i64 tmo,.int .i64 td,.int .i64 th,.int .i64 tmi,.int .i64 ts,.string da2] 42 (L 28) (L 29) wx) (by kernel_rfl) (by kernel_rfl) rfl ?_
    repeat (apply mix_read hne (fun L w _ _=>hU L w) (HST (by decide)) rfl (by simp);(intro u K' hK';go_big_quiet_op;exact hK'))
    apply mix_moved (.pointer (some ⟨w2.heap.size,0,none⟩)) (by simp)
    ·intro L wx hL hP hw K' hK
     have hL':L 28=false:=hL
     have hw0:makeG w2 #[.string ⟨#[]⟩,.int .i64 0,.int .i64 0,.int .i64 0,.int .i64 0,.int .i64 0,.int .i64 0,.string ⟨#[]⟩] #[.string nm2,.int .i64 ty,.int .i64 tmo,.int .i64 td,.int .i64 th,.int .i64 tmi,.int .i64 ts,.string da2] 42 (L 28) (L 29) wx:=hw
     rw[hL']at hw0
     obtain⟨hs,rfl⟩:=makeG_start hw0
     unfold Oper.wp
     go_simp
     refine hK _ ?_
     show makeG w2 #[.string ⟨#[]⟩,.int .i64 0,.int .i64 0,.int .i64 0,.int .i64 0,.int .i64 0,.int .i64 0,.string ⟨#[]⟩] #[.string nm2,.int .i64 ty,.int .i64 tmo,.int .i64 td,.int .i64 th,.int .i64 tmi,.int .i64 ts,.string da2] 42 (upd L 28 28) (upd L 28 29) _
     rw[upd_same,upd_other L 28 29 (by decide),hs]
     rfl
    ·simp[Act.put];rfl
    apply mix_moved undef (by simp)
    ·intro L wx hL hP hw K' hK
     have hL':L 29=false:=hL
     have h10:L 28=true:=pre_mem hP 28 (by decide)
     have hw0:makeG w2 #[.string ⟨#[]⟩,.int .i64 0,.int .i64 0,.int .i64 0,.int .i64 0,.int .i64 0,.int .i64 0,.string ⟨#[]⟩] #[.string nm2,.int .i64 ty,.int .i64 tmo,.int .i64 td,.int .i64 th,.int .i64 tmi,.int .i64 ts,.string da2] 42 (L 28) (L 29) wx:=hw
     rw[hL',h10]at hw0
     obtain rfl:wx=w2.drew.alloc (.cells #[.string ⟨#[]⟩,.int .i64 0,.int .i64 0,.int .i64 0,.int .i64 0,.int .i64 0,.int .i64 0,.string ⟨#[]⟩] 42):=hw0
     unfold Oper.wp
     go_simp
     refine hK _ ?_
     show makeG w2 #[.string ⟨#[]⟩,.int .i64 0,.int .i64 0,.int .i64 0,.int .i64 0,.int .i64 0,.int .i64 0,.string ⟨#[]⟩] #[.string nm2,.int .i64 ty,.int .i64 tmo,.int .i64 td,.int .i64 th,.int .i64 tmi,.int .i64 ts,.string da2] 42 (upd L 29 28) (upd L 29 29) _
     rw[upd_same,upd_other L 29 28 (by decide),h10]
     rfl
    ·simp[Act.put];rfl
    refine mix_nil ?_
    intro L wx hall hw
    have hw0:makeG w2 #[.string ⟨#[]⟩,.int .i64 0,.int .i64 0,.int .i64 0,.int .i64 0,.int .i64 0,.int .i64 0,.string ⟨#[]⟩] #[.string nm2,.int .i64 ty,.int .i64 tmo,.int .i64 td,.int .i64 th,.int .i64 tmi,.int .i64 ts,.string da2] 42 (L 28) (L 29) wx:=hw
    rw[hall 28 (by decide),hall 29 (by decide)]at hw0
    obtain rfl:wx=w2.drew.alloc (.cells #[.string nm2,.int .i64 ty,.int .i64 tmo,.int .i64 td,.int .i64 th,.int .i64 tmi,.int .i64 ts,.string da2] 42):=hw0
    have KF:Blk w2.heap.size #[.string nm2,.int .i64 ty,.int .i64 tmo,.int .i64 td,.int .i64 th,.int .i64 tmi,.int .i64 ts,.string da2] 42 (w2.drew.alloc (.cells #[.string nm2,.int .i64 ty,.int .i64 tmo,.int .i64 td,.int .i64 th,.int .i64 tmi,.int .i64 ts,.string da2] 42)):=Blk.new w2.drew _ _
    have BF:Below w2.heap.size w2 (w2.drew.alloc (.cells #[.string nm2,.int .i64 ty,.int .i64 tmo,.int .i64 td,.int .i64 th,.int .i64 tmi,.int .i64 ts,.string da2] 42)):=((Below.refl _ _).drew).alloc (Nat.le_refl _) _
    have KD3:=KD.below BF
    have hF1:wr.heap.size≤w2.heap.size:=HB2.out.size
    have hDF:D<w2.heap.size:=KD.lt
    have HB3:Hid (Below wr.heap.size wr (w2.drew.alloc (.cells #[.string nm2,.int .i64 ty,.int .i64 tmo,.int .i64 td,.int .i64 th,.int .i64 tmi,.int .i64 ts,.string da2] 42))):=Lib.hid (HB2.out.trans (BF.mono HB2.out.size))
    obtain⟨w3,hw3⟩:∃ w3,w2.drew.alloc (.cells #[.string nm2,.int .i64 ty,.int .i64 tmo,.int .i64 td,.int .i64 th,.int .i64 tmi,.int .i64 ts,.string da2] 42)=w3:=⟨_,rfl⟩
    obtain⟨F,hF⟩:∃ F,w2.heap.size=F:=⟨_,rfl⟩
    rw[hw3]at KF KD3 HB3
    rw[hw3,hF]
    rw[hF]at KF hF1 hDF
    clear hw hall hfb hne HST x0 x2 y0 y1 y2 y3 y4 y5 hU hf hw3 hF hg2 KD BF HB2 U f D0 D2 hgw
    go_upto_region 8 with fail
    have hwz:=HB.out.size
    have hw3:=HB3.out.size
    have R1:w3.ownsRow w.heap.size 42 8 (.slice A1 i c1) i (fs.flatMap flC):=by
     have h:=own_below HO1.out HB3.out
     rw[HI.out]at h
     exact h
    have R2:w3.ownsRow w.heap.size 63 8 (.slice A2 i c2) i (fs.flatMap rfC):=by
     have h:=own_below HO2.out HB3.out
     rw[HI.out]at h
     exact h
    have hl1:∀ k,(Value.slice A1 i c1).ownBlock=some k→k<wr.heap.size:=fun k hk=>(HO1.out.lt k (by rw[HI.out];exact hk)).2
    have hl2:∀ k,(Value.slice A2 i c2).ownBlock=some k→k<wr.heap.size:=fun k hk=>(HO2.out.lt k (by rw[HI.out];exact hk)).2
    obtain⟨s,hs⟩:∃ s,(⟨42,8,.slice A1 i c1,fs.flatMap flC,[.string nm2,.int .i64 ty,.int .i64 tmo,.int .i64 td,.int .i64 th,.int .i64 tmi,.int .i64 ts,.string da2],2,3,14⟩:Side)=s:=⟨_,rfl⟩
    obtain⟨t,ht⟩:∃ t,(⟨63,8,.slice A2 i c2,fs.flatMap rfC,[.string nm2,.int .i64 ty,.int .i64 tmo,.int .i64 td,.int .i64 th,.int .i64 tmi,.int .i64 ts,.int .i64 (da2.size:Int)],12,13,15⟩:Side)=t:=⟨_,rfl⟩
    have HH1:=Lib.hid hs
    have HH2:=Lib.hid ht
    have h6:sixB s t=true:=by rw[← hs,← ht];rfl
    have hst:=two_start (w0:=w3) (B:=w.heap.size) (n:=i) (s:=s) (t:=t) (by rw[← hs];exact R1) (by rw[← ht];exact R2) (fun _=>undef)
    obtain⟨U,f,hU,hf⟩:=worldsX (TwoP w.heap.size i w3 s t)
    have hne:Nonempty U:=⟨(hU _ _ _ hst).choose⟩
    have blk:∀ u j,wr.heap.size≤j→j<w3.heap.size→(f u).heap[j]?=w3.heap[j]?:=fun u j hj hj2=>by
     obtain⟨L,X,h⟩:=hf u
     exact two_block h (by rw[← hs];exact R1) (by rw[← ht];exact R2) (by rw[← hs];exact hl1) (by rw[← ht];exact hl2) hj hj2
    have hFw:=KF.lt
    have bF:=fun u=>blk u F hF1 hFw
    have bD:=fun u=>blk u D hD1 KD3.lt
    have y0:∀ u,(f u).cell? ⟨D,0,none⟩=_:=fun u=>(World.cell?_of_block (a:=⟨D,0,none⟩) (bD u)).trans (KD3.cell 0)
    have y1:∀ u,(f u).cell? ⟨D,1,none⟩=_:=fun u=>(World.cell?_of_block (a:=⟨D,1,none⟩) (bD u)).trans (KD3.cell 1)
    have y2:∀ u,(f u).cell? ⟨D,2,none⟩=_:=fun u=>(World.cell?_of_block (a:=⟨D,2,none⟩) (bD u)).trans (KD3.cell 2)
    have y3:∀ u,(f u).cell? ⟨D,3,none⟩=_:=fun u=>(World.cell?_of_block (a:=⟨D,3,none⟩) (bD u)).trans (KD3.cell 3)
    have y4:∀ u,(f u).cell? ⟨D,4,none⟩=_:=fun u=>(World.cell?_of_block (a:=⟨D,4,none⟩) (bD u)).trans (KD3.cell 4)
    have y5:∀ u,(f u).cell? ⟨D,5,none⟩=_:=fun u=>(World.cell?_of_block (a:=⟨D,5,none⟩) (bD u)).trans (KD3.cell 5)
    have x0:∀ u,(f u).cell? ⟨F,0,none⟩=_:=fun u=>(World.cell?_of_block (a:=⟨F,0,none⟩) (bF u)).trans (KF.cell 0)
    have x1:∀ u,(f u).cell? ⟨F,1,none⟩=_:=fun u=>(World.cell?_of_block (a:=⟨F,1,none⟩) (bF u)).trans (KF.cell 1)
    have x2:∀ u,(f u).cell? ⟨F,2,none⟩=_:=fun u=>(World.cell?_of_block (a:=⟨F,2,none⟩) (bF u)).trans (KF.cell 2)
    have x3:∀ u,(f u).cell? ⟨F,3,none⟩=_:=fun u=>(World.cell?_of_block (a:=⟨F,3,none⟩) (bF u)).trans (KF.cell 3)
    have x4:∀ u,(f u).cell? ⟨F,4,none⟩=_:=fun u=>(World.cell?_of_block (a:=⟨F,4,none⟩) (bF u)).trans (KF.cell 4)
    have x5:∀ u,(f u).cell? ⟨F,5,none⟩=_:=fun u=>(World.cell?_of_block (a:=⟨F,5,none⟩) (bF u)).trans (KF.cell 5)
    have x6:∀ u,(f u).cell? ⟨F,6,none⟩=_:=fun u=>(World.cell?_of_block (a:=⟨F,6,none⟩) (bF u)).trans (KF.cell 6)
    have x7:∀ u,(f u).cell? ⟨F,7,none⟩=_:=fun u=>(World.cell?_of_block (a:=⟨F,7,none⟩) (bF u)).trans (KF.cell 7)
    refine wp_region_free [2,3,14,12,13,15] (TwoP w.heap.size i w3 s t) (by kernel_rfl) (by kernel_rfl) hne (fun L X w h=>hU L X w h) (fun i hi L X w h=>two_still h (by rw[← hs,← ht];simpa using hi)) _ hst ?_
    have sl:s.l=2:=by rw[← hs]
    have sp:s.p=3:=by rw[← hs]
    have sq:s.q=14:=by rw[← hs]
    have sT:s.T=42:=by rw[← hs]
    have sn:s.new= [.string nm2,.int .i64 ty,.int .i64 tmo,.int .i64 td,.int .i64 th,.int .i64 tmi,.int .i64 ts,.string da2]:=by rw[← hs]
    have sz:s.sz=8:=by rw[← hs]
    have sv:s.v= .slice A1 i c1:=by rw[← hs]
    have tl:t.l=12:=by rw[← ht]
    have tp:t.p=13:=by rw[← ht]
    have tq:t.q=15:=by rw[← ht]
    have tT:t.T=63:=by rw[← ht]
    have tn:t.new= [.string nm2,.int .i64 ty,.int .i64 tmo,.int .i64 td,.int .i64 th,.int .i64 tmi,.int .i64 ts,.int .i64 (da2.size:Int)]:=by rw[← ht]
    have tz:t.sz=8:=by rw[← ht]
    have tv:t.v= .slice A2 i c2:=by rw[← ht]
    have h62:sixB t s=true:=by rw[← hs,← ht];rfl
    intro X
    repeat (apply free_read hne (by decide) rfl rfl (by simp);(intro u K' hK';go_big_quiet_op;exact hK'))
    refine free_move (by decide) (by simp) (fun e=>by cases e) (fun L w hL hP hw K' hK=>?_) (by simp[Act.put];rfl) ?_
    ·have h:=two_lit h6 hw (by rw[sl];exact hL)
     rw[sl,sn,sT]at h
     unfold Oper.wp
     go_simp
     exact hK _ _ h
    refine free_move (by decide) (by simp) (fun e=>by cases e) (fun L w hL hP hw K' hK=>?_) (by simp[Act.put];rfl) ?_
    ·obtain⟨v',w',hr,h⟩:=two_app (P:=Tryz.prog) h6 hw (by rw[sT,tT];decide) (Nat.le_trans hwz hw3) (by rw[sl];exact pre_mem hP 2 (by decide)) (by rw[sp];exact hL) 24 24 tfl _ 80 (by rw[sT];exact Tryz.underlying24) (by rw[sT];exact tfl_info) tfl_zero (by rw[sz];exact tfl_size) tfl_bytes (by rw[sz];rfl) (by rw[sz];decide) (by rw[sn,sz];rfl) (by rw[sn];simp[Value.oneCell']) (by omega) (by decide)
     rw[sp]at h
     rw[sv,sl]at hr
     exact wp_append_run (.tmp 57) (.tmp 59) 24 rfl rfl rfl hr (hK _ _ h)
    repeat (apply free_read hne (by decide) rfl rfl (by simp);(intro u K' hK';go_big_quiet_op;exact hK'))
    refine free_move (by decide) (by simp) (fun e=>by cases e) (fun L w hL hP hw K' hK=>?_) (by simp[Act.put];rfl) ?_
    ·have h:=two_lit h62 (two_swap hw) (by rw[tl];exact hL)
     rw[tl,tn,tT]at h
     unfold Oper.wp
     go_simp
     exact hK _ _ (two_swap h)
    refine free_move (by decide) (by simp) (fun e=>by cases e) (fun L w hL hP hw K' hK=>?_) (by simp[Act.put];rfl) ?_
    ·obtain⟨v',w',hr,h⟩:=two_app (P:=Tryz.prog) h62 (two_swap hw) (by rw[sT,tT];decide) (Nat.le_trans hwz hw3) (by rw[tl];exact pre_mem hP 12 (by decide)) (by rw[tp];exact hL) 25 25 trl _ 72 (by rw[tT];exact Tryz.underlying25) (by rw[tT];exact trl_info) trl_zero (by rw[tz];exact trl_size) trl_bytes (by rw[tz];rfl) (by rw[tz];decide) (by rw[tn,tz];rfl) (by rw[tn];simp[Value.oneCell']) (by omega) (by decide)
     rw[tp]at h
     rw[tv,tl]at hr
     exact wp_append_run (.tmp 61) (.tmp 69) 25 rfl rfl rfl hr (hK _ _ (two_swap h))
    refine free_move (by decide) (by simp) (fun e=>by cases e) (fun L w hL hP hw K' hK=>?_) (by simp[Act.put];rfl) ?_
    ·have h:=two_asg h6 hw (by rw[sp];exact pre_mem hP 3 (by decide))
     rw[sp,sq]at h
     unfold Oper.wp
     go_simp
     exact hK _ _ h
    refine free_move (by decide) (by simp) (fun e=>by cases e) (fun L w hL hP hw K' hK=>?_) (by simp[Act.put];rfl) ?_
    ·have h:=two_asg h62 (two_swap hw) (by rw[tp];exact pre_mem hP 13 (by decide))
     rw[tp,tq]at h
     unfold Oper.wp
     go_simp
     exact hK _ _ (two_swap h)
    refine free_nil ?_
    intro L wx hall hw
    have hd:=two_done h6 hw (by rw[sq];exact hall 14 (by decide)) (by rw[tq];exact hall 15 (by decide))
    rw[sq,tq]at hd
    obtain⟨B1,e1,hX1⟩:=own_form hd.1
    obtain⟨B2,e2,hX2⟩:=own_form hd.2
    rw[← hs,← ht,hX1,hX2]at hd
    rw[hX1,hX2]
    have hbe:Below w.heap.size w wx:=HB.out.trans ((HB3.out.mono HB.out.size).trans (Turn.below hw.1 (fun k hk=>by
     rcases hk with hk|hk
     ·rw[sv]at hk;exact(R1.lt k hk).1
     ·rw[tv]at hk;exact(R2.lt k hk).1) (Nat.le_trans hwz hw3)))
    have HE:=Lib.hid hbe
    have HD:=Lib.hid hd
    clear hbe hd hw hall hs ht h62 sl sp sq sT sn sz sv tl tp tq tT tn tz tv y0 y1 y2 y3 y4 y5 x0 x1 x2 x3 x4 x5 x6 x7 bF bD blk hf hU hst hne hX1 hX2 R1 R2 hl1 hl2 KF KD3 ek1 el1 ek2 el2 d1 q1 q2 hs1 hs2 ht1 ht2
    go_wp2
    go_roundw
    case rel =>
     have el:(fs ++ [(⟨nm2,⟨ty,tmo,td,th,tmi,ts⟩,da2⟩:Fl)]).length=i+1:=by rw[List.length_append,HI.out];rfl
     refine⟨fs ++ [⟨nm2,⟨ty,tmo,td,th,tmi,ts⟩,da2⟩],by rw[el];go_num,by rw[el];omega,by rw[el];omega,fun f hf=>?_,?_,?_,HE.out⟩
     ·rcases List.mem_append.1 hf with hf|hf
      ·exact HSM.out f hf
      ·rw[List.mem_singleton]at hf
       subst hf
       exact⟨hnz,hdz⟩
     ·rw[el,List.flatMap_append]
      exact HD.out.1
     ·rw[el,List.flatMap_append]
      exact HD.out.2
    case measure=>simp[intOf];omega
   ·have q2:decide ((i:Int)<6)=false:=decide_eq_false (by omega)
    go_wp2
    go_ret2
    exact⟨fs,.slice A1 fs.length c1,.slice A2 fs.length c2,by rw[HI.out];rfl,by rw[HI.out];exact h6,HSM.out,HO1.out,HO2.out,HB.out⟩
  ·have q1:decide ((i:Int)<(n:Int))=false:=decide_eq_false (by omega)
   go_wp2
   go_ret2
   exact⟨fs,.slice A1 fs.length c1,.slice A2 fs.length c2,by rw[HI.out];rfl,by rw[HI.out];exact h6,HSM.out,HO1.out,HO2.out,HB.out⟩
end Go.Proofs.YtgiogemkomgkhaaGreatDoor.Ar
namespace Go.Proofs.YtgiogemkomgkhaaGreatDoor.Ar
open Go.RowKit Go.Shelf Mg Zp YtgiogemkomgkhaaGreatDoor.Nm Df Cr Bk Mt Ri Rf Bw
theorem end0:(endS 0 0 0).size=22:=by
 unfold endS
 rw[if_pos (by decide),if_neg (by decide)]
 simp only[ByteArray.size_append,puI_2,puI_4,puI_8,verS_size,narS_size]
 decide
theorem tail0:(tailS []).size=22:=by
 unfold tailS
 rw[ByteArray.size_append]
 have h:(catL [])= []:=rfl
 rw[h]
 exact end0
theorem step0 (level:Nat):stepP level [] start0=some ((tailS []).extract 0 22,⟨0,0,[],(tailS []).extract 22 22,true⟩):=by
 have h1:moreP level [] start0=(true,⟨0,0,[],tailS [],true⟩):=rfl
 have h0:start0.rest.size=0:=rfl
 unfold stepP nextP
 rw[if_pos h0,h1]
 simp only[if_true,tail0]
 rfl
theorem step1 (level:Nat):stepP level [] ⟨0,0,[],(tailS []).extract 22 22,true⟩=none:=by
 have h1:∀ r,moreP level [] ⟨0,0,[],r,true⟩=(false,⟨0,0,[],r,true⟩):=fun r=>rfl
 have h0:((tailS []).extract 22 22).size=0:=by rw[ByteArray.size_extract];omega
 unfold stepP nextP
 simp only[h0,if_true,h1]
 rfl
theorem runs0 {level:Nat} {xs:List ByteArray} {st:Mst} (h:Runs (stepP level []) start0 xs st) (hs:stepP level [] st=none):∃ x,xs= [x]∧x.size=22 :=
 ⟨_,(h.one hs (.cons (step0 level) (.nil _)) (step1 level)).1,by rw[ByteArray.size_extract,tail0];rfl⟩
theorem check0:(checkP [] 9).2=0:=by
 unfold checkP
 rw[if_neg (by decide)]
 rfl
set_option maxHeartbeats 2000000 in
theorem arspeak_calls (w:World) (hG:Globs w.heap.size w):Calls Tryz.prog 6 #[] w fun e w'=>e= .returned (.bool true)∧Below w.heap.size w w':=by
 have HC:=Lib.hid (segs_calls none 0 [] 9 w (Cels.nil _ _) (by simp) (fun f hf=>by cases hf) hG (by decide) check0)
 go_enter Tryz.func6,Tryz.ntmps6
 go_wp2_with fail
 refine HC.out.mono ?_
 rintro e w1 ⟨A',c',xs,st,rfl,hr,hst,hcel,hb, -,hc, -⟩
 obtain⟨x,rfl,hx⟩:=runs0 hr hst
 obtain⟨g,o,rfl,hd⟩:=hcel.of strC_len (by decide) 0 x rfl
 have d0:=hd 0 _ rfl
 simp only[Nat.zero_mul,Nat.add_zero]at d0
 have HB:=Lib.hid hb
 have hx2:(x.size:Int)=22:=by omega
 simp only[List.length_cons,List.length_nil,Nat.zero_add]at hc ⊢
 clear hcel hd hb hr hst hx HC hG
 go_wp2
 go_ret
 exact⟨rfl,HB.out⟩
end Go.Proofs.YtgiogemkomgkhaaGreatDoor.Ar
namespace Go.Proofs.YtgiogemkomgkhaaGreatDoor.Ar
open Go.RowKit Go.Shelf Mg Zp YtgiogemkomgkhaaGreatDoor.Nm Df Cr Bk Mt Ri Rf Bw
theorem allB_fine {xs:List ByteArray} (h:(allB xs).2=0):∀ k,k<xs.length→errAt xs k=0:=by
 intro k hk
 unfold allB at h
 cases hf:(List.range xs.length).find? (fun k=>errAt xs k != 0) with
 | some j =>
  rw[hf]at h
  have:=List.find?_some hf
  simp only[bne_iff_ne,ne_eq]at this
  exact absurd h this
 | none =>
  rw[List.find?_eq_none]at hf
  have:=hf k (by simpa using hk)
  simpa using this
theorem badT_fine {fs:List Fl} (h:(timeP fs).2=0):∀ f∈fs,tgood f.t=true:=by
 intro f hf
 obtain⟨k,hk,rfl⟩:=List.getElem_of_mem hf
 unfold timeP at h
 cases hb:badT fs with
 | some i=>rw[hb]at h;cases h
 | none =>
  unfold badT at hb
  rw[List.find?_eq_none]at hb
  have:=hb k (by simpa using hk)
  rw[List.getElem?_eq_getElem hk]at this
  simpa using this
theorem fine_of {fs:List Fl} {level:Int} (h:(checkP fs level).2=0) (hs:∀ f∈fs,f.name.size≤60∧f.data.size≤600):0≤level∧level≤9∧∀ f∈fs,f.ok:=by
 unfold checkP at h
 by_cases h1:level<0∨9<level
 ·rw[if_pos h1]at h;cases h
 ·rw[if_neg h1]at h
  by_cases h2:(allB (namesF fs)).2≠0
  ·rw[if_pos h2]at h;exact absurd h h2
  ·rw[if_neg h2]at h
   refine⟨by omega,by omega,fun f hf=>⟨?_,badT_fine h f hf,by have:=(hs f hf).2;omega⟩⟩
   obtain⟨k,hk,rfl⟩:=List.getElem_of_mem hf
   have he:=allB_fine (Decidable.not_not.1 h2) k (by unfold namesF;simpa using hk)
   have hn:(namesF fs)[k]?=some fs[k].name:=by unfold namesF;simp[hk]
   unfold errAt at he
   rw[hn]at he
   simp only at he
   cases hc:checkB fs[k].name with
   | true=>rfl
   | false=>rw[hc]at he;cases he
end Go.Proofs.YtgiogemkomgkhaaGreatDoor.Ar
namespace Go.Proofs.YtgiogemkomgkhaaGreatDoor.Fr
open Go Go.ChangeShapes Go.WideShapes Go.ChangeAt Go.RowKit Go.Deep Ar
theorem list3 {α:Type} {l:List α} (h:l.length=3):∃ a b c,l= [a,b,c]:=by
 match l,h with
 | [a,b,c],_=>exact⟨a,b,c,rfl⟩
def rawD {H:Type} (r:Raw):DataW H:= .agg [.lit (.string r.name.data.toList),.lit (.int .i64 r.time),.lit (.string r.data.data.toList)]
section
variable {H:Type} {enc:TypeId×Value→H} {w:World}
set_option maxRecDepth 100000 in
theorem raw_open {fuel base:Nat} {sp:Nat→Bool} {hd:Bool} {cs:List Value} {x:DataW H×List MemPlace} (hl:cs.length=3) (h:DataW.trod enc Tryz.prog w base sp hd fuel 61 cs=some x) :
  ∃ r:Raw,cs=rawC r∧x.1=rawD r∧ -9223372036854775808≤r.time∧r.time≤9223372036854775807:=by
 obtain⟨c0,c1,c2,rfl⟩:=list3 hl
 obtain⟨xs,n,_,hx,hl,hlen,hall⟩:=DataW.trod_struct Tryz.underlying61 h
 obtain⟨y0,y1,y2,rfl⟩:=list3 (show xs.length=3 from hlen)
 have k0:Tryz.prog.cellsOf 9=1:=by kernel_rfl
 have k1:Tryz.prog.cellsOf 3=1:=by kernel_rfl
 have h0:=hall 0 _ rfl
 have h1:=hall 1 _ rfl
 have h2:=hall 2 _ rfl
 simp[Value.cells,k0,k1]at h0 h1 h2
 obtain⟨f0,e0,rfl,_⟩:=DataW.trod_string Tryz.underlying9 h0
 obtain⟨f1,e1,rfl,w1⟩:=DataW.trod_int Tryz.underlying3 h1
 obtain⟨f2,e2,rfl,_⟩:=DataW.trod_string Tryz.underlying9 h2
 simp only[List.cons.injEq,and_true]at e0 e1 e2
 subst e0 e1 e2
 have hw:=w1
 simp[Lit.wf]at hw
 have e1:IntKind.i64.min= -9223372036854775808:=rfl
 rw[e1]at hw
 exact⟨⟨f0,f1,f2⟩,rfl,by rw[hx];rfl,hw.1,hw.2⟩
set_option maxRecDepth 100000 in
theorem raws_open {ts:List TypeId} {ds:List (DataW H)} {j:Nat} {a0:Option Addr} {len cap:Nat} {d:DataW H} {ps:List MemPlace}
  (h:DataW.Trod enc Tryz.prog w 0 (fun _=>true) true 22 (.slice a0 len cap) d ps)
  (hsz:(DataW.weightsEach Tryz.prog ts ds).all (· ≤reachBytes)=true) (hj:ts[j]?=some 22) (hd:ds[j]?=some d) :
  ∃ xs:List Raw,xs.length=len∧Cels w a0 (xs.flatMap rawC)∧RawOk xs∧xs.length≤140737488351232:=by
 obtain⟨fuel,hf⟩:=h
 have hC:Tryz.prog.cellsOf 61=3:=by kernel_rfl
 have hby:Tryz.prog.bytesOf 61=40:=by kernel_rfl
 rcases open_slice Tryz.underlying22 hf with⟨hcs,hx⟩|⟨a,len',cap',m,n,D,Pl,hcs,_,hl,hm,hmm,hx,hi⟩
 ·simp[Value.cells]at hcs
  obtain⟨rfl,rfl,rfl⟩:=hcs
  exact⟨[],rfl,Cels.nil _ _,(fun x hx=>by cases hx),Nat.zero_le _⟩
 ·simp[Value.cells]at hcs
  obtain⟨rfl,rfl,rfl⟩:=hcs
  simp only[if_true]at hmm
  subst hmm
  simp only[Prod.mk.injEq]at hx
  obtain⟨rfl,rfl⟩:=hx
  have hreach:=sized_slice hsz hj hd Tryz.underlying22
  rw[hby]at hreach
  simp only[List.length_map,List.length_range,reachBytes]at hreach
  have key:∀ i:Fin len,∃ r:Raw,(∀ k v,(rawC r)[k]?=some v→w.cell? (a.add (i*3+k))=some v)∧D i=rawD r∧ -9223372036854775808≤r.time∧r.time≤9223372036854775807:=fun ⟨i,hil⟩=>by
   obtain⟨cs',hc,ht'⟩:=hi i (by omega)
   rw[hC]at hc
   obtain⟨_,hcl,hat⟩:=World.cells?_some hc
   obtain⟨r,rfl,h1,h2⟩:=raw_open hcl ht'
   refine⟨r,fun k v hv=>?_,h1,h2⟩
   obtain⟨hk,hv2⟩:=List.getElem?_eq_some_iff.1 hv
   rw[← Go.Deep.add_add,hat k hk]
   exact hv
  have hw:∀ (i:Fin len) (s:List UInt8),(Lit.string s)= .string ((key i).choose.name.data.toList)∨(Lit.string s)= .string ((key i).choose.data.data.toList)→s.length≤140737488351232:=fun i s hs=>by
   have e:=(key i).choose_spec.2.1
   have hmem:s.length∈DataW.weights Tryz.prog 22 (DataW.slice ((List.range len).map D) ((List.range (m - len)).map fun j=>D (len+j))):=by
    simp only[DataW.weights,Tryz.underlying22]
    rw[List.mem_cons,List.mem_append]
    have hm:D i∈(List.range len).map D:=List.mem_map.2 ⟨i,List.mem_range.2 i.2,rfl⟩
    refine .inr (.inl (Fa.mem_weightsAll hm _ ?_))
    rw[e]
    unfold rawD DataW.weights
    rw[Tryz.underlying61]
    rcases hs with hs|hs<;>(cases hs;simp[DataW.weightsEach,DataW.weights];first|exact Or.inl rfl|exact Or.inr rfl)
   have:=List.all_eq_true.1 hsz _ (DataW.weights_mem_each hj hd _ hmem)
   exact of_decide_eq_true this
  refine⟨List.ofFn fun i=>(key i).choose,by simp,?_,?_,by simp;omega⟩
  ·intro k hk
   rw[flat_len rawC 3 rawC_len,List.length_ofFn]at hk
   have h0:k/3<len:=by omega
   have h1:=flat_get rawC 3 rawC_len (List.ofFn fun i=>(key i).choose) (k/3) ((key ⟨k/3,h0⟩).choose) (by simp[h0]) (k % 3) (by omega)
   rw[show k/3*3+k % 3=k by omega]at h1
   rw[List.getElem?_eq_getElem (by rw[flat_len rawC 3 rawC_len,List.length_ofFn];omega)]at h1
   have h2:=(key ⟨k/3,h0⟩).choose_spec.1 (k % 3) _ h1.symm
   simp only at h2
   rw[show k/3*3+k % 3=k by omega]at h2
   obtain⟨b,off,spot⟩:=a
   have h3:=(key ⟨0,by omega⟩).choose_spec.1 0 _ rfl
   have hspot:spot=none:=by simpa[Addr.add] using World.cell?_spot h3
   subst hspot
   have hadd:(⟨b,off,none⟩:Addr).add k=⟨b,off+k,none⟩:=by unfold Addr.add;split<;>simp_all
   rw[hadd]at h2
   exact⟨b,off,rfl,h2⟩
  ·intro x hx
   rw[List.mem_ofFn]at hx
   obtain⟨i,rfl⟩:=hx
   exact⟨hw i _ (.inl rfl),hw i _ (.inr rfl),(key i).choose_spec.2.2⟩
end
end Go.Proofs.YtgiogemkomgkhaaGreatDoor.Fr
