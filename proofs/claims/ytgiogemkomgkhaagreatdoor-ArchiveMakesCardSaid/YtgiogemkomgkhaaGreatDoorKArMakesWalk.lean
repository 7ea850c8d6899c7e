/-
  ArchiveMakes' walk. (Printed by mkarmakes.py.)
-/
import Derived.Test.YtgiogemkomgkhaaGreatDoorKArW
import Derived.Test.YtgiogemkomgkhaaGreatDoorKAmM
import Derived.Test.YtgiogemkomgkhaaGreatDoorKRegOne
set_option linter.unusedVariables false
set_option linter.unusedSimpArgs false
namespace Go.Proofs.YtgiogemkomgkhaaGreatDoor.Ar
open Go.RowKit Go.Shelf Mg Zp YtgiogemkomgkhaaGreatDoor.Nm Df Cr Bk Mt Ri Rf Bw
noncomputable def trf:TypeInfo:=(Tryz.prog.info? 53).getD default
theorem trf_info:Tryz.prog.info? 53=some trf:=by kernel_rfl
theorem trf_zero:trf.zero=some (.agg #[.string ⟨#[]⟩,.int .i64 0,.int .i64 0,.int .i64 0,.int .i64 0,.int .i64 0,.int .i64 0,.string ⟨#[]⟩,.string ⟨#[]⟩]):=by kernel_rfl
theorem trf_size:trf.size=9:=by kernel_rfl
theorem trf_bytes:trf.bytes=96:=by kernel_rfl
theorem rfL_ones (x:RF):∀ u∈rfL x,u.oneCell'=true:=by
 intro u hu
 simp only[rfL,List.mem_cons,List.not_mem_nil,or_false]at hu
 rcases hu with rfl|rfl|rfl|rfl|rfl|rfl|rfl|rfl|rfl<;>rfl
set_option maxHeartbeats 4000000 in
set_option maxRecDepth 100000 in
theorem armakes_walk (A:Option Addr) (c:Nat) (l:List Raw) (level:Int) (w:World) (hA:Cels w A (l.flatMap rawC)) (hn:l.length≤140737488351232) (hs:RawOk l) (hG:Globs w.heap.size w) :
  Calls Tryz.prog 5 #[.slice A l.length c,.int .i64 level] w fun e w'=>e= .returned (.bool true)∧Below w.heap.size w w':=by
 have HG:=Lib.hid hG
 have HA:=Lib.hid hA
 have HM:=Lib.hid (fun w1 (h:Cels w1 A (l.flatMap rawC))=>armade_calls A c l w1 h hn hs)
 obtain⟨n,hn0⟩:∃ n,l.length=n:=⟨_,rfl⟩
 rw[hn0]at HM
 rw[hn0]
 clear hA hn hs hG hn0
 go_enter Tryz.func5,Tryz.ntmps5
 go_wp2_with fail
 refine(arspeak_calls _ HG.out).mono ?_
 rintro e w1 ⟨rfl,hb1⟩
 have HB1:=Lib.hid hb1
 clear hb1
 go_wp2_with fail
 refine(HM.out w1 (HA.out.below HB1.out)).mono ?_
 rintro e w2 ⟨fs,va,vb,rfl,h6,hsm,ho1,ho2,hb2⟩
 obtain⟨A1,c1,rfl⟩:=own_form ho1
 obtain⟨A2,c2,rfl⟩:=own_form ho2
 have C1:=Lib.hid (cels_own ho1)
 have C2:=Lib.hid (cels_own ho2)
 have HB2:=Lib.hid (HB1.out.trans (hb2.mono HB1.out.size))
 have hsz:∀ f∈fs,f.name.size≤140737488351232∧f.data.size≤1000000:=fun f hf=>by have:=hsm f hf;omega
 have HSM:=Lib.hid hsm
 have HSZ:=Lib.hid hsz
 have hn5:fs.length≤500:=by omega
 have HN5:=Lib.hid hn5
 have HR:=Lib.hid (fun W (h:Below w2.heap.size w2 W)=>refchk_calls A2 c2 fs level W (C2.out.below h) HN5.out (fun f hf=>(HSZ.out f hf).1))
 have HF:=Lib.hid (fun (hc:(checkP fs level).2=0)=>fine_of hc HSM.out)
 have HMG:=Lib.hid (fun (hc:(checkP fs level).2=0) (lv:Nat) (e:level=lv) W (h:Below w2.heap.size w2 W) (h2:Below w.heap.size w W)=>make_calls2 A1 c1 fs lv W (C1.out.below h) HN5.out (HF.out hc).2.2 ((HG.out.below h2).mono h2.size) (by have:=(HF.out hc).2.1;omega) (e▸hc))
 have P:=Lib.hid (Below.refl w2.heap.size w2)
 have Q:=HB2
 have hQ2:=HB2.out.size
 obtain⟨m,hm⟩:∃ m,fs.length=m:=⟨_,rfl⟩
 have hm6:m≤6:=by omega
 have HML:=Lib.hid hm
 obtain⟨a1,a2,ha⟩:∃ a1 a2,checkP fs level=(a1,a2):=⟨_,_,rfl⟩
 rw[ha]at HR HF HMG
 rw[hm]at HR HMG
 rw[hm]
 clear ho1 ho2 hb2 hsm hsz hn5 h6 HM hm ha HB2 C2 HSM HSZ HA
 go_wp2_with fail
 refine(HR.out _ P.out).mono ?_
 rintro e w4 ⟨rfl,hb⟩
 replace P:=Lib.hid (P.out.trans (hb.mono P.out.size))
 replace Q:=Lib.hid (Q.out.trans (hb.mono Q.out.size))
 clear hb
 by_cases hz:a2=0
 ·obtain⟨lv,e⟩:∃ lv:Nat,level=lv:=⟨level.toNat,by have:=(HF.out hz).1;omega⟩
  subst hz
  have HM:=Lib.hid (HMG.out rfl lv e)
  have hlv:lv≤9:=by have:=(HF.out rfl).2.1;omega
  have HOK:=Lib.hid (HF.out rfl).2.2
  subst e
  have HLV:=Lib.hid hlv
  clear HMG HF HR hlv
  go_wp2
  go_loopw [9,10] (fun v9 vi wr=>∃ k:Nat,k≤m∧vi= .int .i64 k∧wr.ownsRow w2.heap.size 53 9 v9 k (((fs.take k).map (toR lv)).flatMap rfL)∧Below w2.heap.size w2 wr∧Below w.heap.size w wr) (fun _ vi _=>m - (intOf vi).toNat)
  case atStart=>exact⟨0,Nat.zero_le _,rfl,World.ownsRow_nil _ _ _ _,P.out,Q.out⟩
  case round =>
   obtain⟨k,hk,rfl,hr,hp,hq⟩:=hrel
   have HRW:=Lib.hid hr
   have P1:=Lib.hid hp
   have Q1:=Lib.hid hq
   clear hr hp hq P Q
   by_cases hlt:k<m
   ·have q1:decide ((k:Int)<(m:Int))=true:=decide_eq_true (by omega)
    have q1':decide (k<m)=true:=decide_eq_true hlt
    have hkl:k<fs.length:=by rw[HML.out];exact hlt
    obtain⟨g,o,rfl,hc2⟩:=C1.out.of flC_len (by decide) k fs[k] (List.getElem?_eq_getElem hkl)
    have hg2:g<w2.heap.size:=World.block_lt_of_cell? _ _ (hc2 0 _ rfl)
    have hc:∀ j v,(flC fs[k])[j]?=some v→wr.cell? ⟨g,o+k*8+j,none⟩=some v:=fun j v hv=>(P1.out.cell (p:=⟨g,o+k*8+j,none⟩) hg2).trans (hc2 j v hv)
    clear hc2
    have hof:=HOK.out fs[k] (List.getElem_mem hkl)
    have HTK:Hid (((fs.take (k+1)).map (toR lv)).flatMap rfL=((fs.take k).map (toR lv)).flatMap rfL++rfL (toR lv fs[k])):=Lib.hid (by rw[List.take_succ_eq_append_getElem hkl,List.map_append,List.flatMap_append];simp)
    generalize fs[k]=x at hc hof HTK
    obtain⟨nm,⟨ty,tmo,td,th,tmi,ts⟩,da⟩:=x
    have hds:=hof.d
    simp only at hds
    have HAL:=Lib.hid (fun W (h:Below w.heap.size w W)=>all_calls lv da W HLV.out hds ⟨(HG.out.below h).here.1,(HG.out.below h).here.2.1⟩)
    obtain⟨ST,hST⟩:∃ ST,strmS lv da=ST:=⟨_,rfl⟩
    have HST:=Lib.hid hST
    have hones:∀ u∈([.string nm,.int .i64 ty,.int .i64 tmo,.int .i64 td,.int .i64 th,.int .i64 tmi,.int .i64 ts,.string da,.string ST]:List Value),u.oneCell'=true:=by have h:=rfL_ones ⟨nm,⟨ty,tmo,td,th,tmi,ts⟩,da,ST⟩;exact h
    have HNEW:Hid (rfL (toR lv ⟨nm,⟨ty,tmo,td,th,tmi,ts⟩,da⟩)= [.string nm,.int .i64 ty,.int .i64 tmo,.int .i64 td,.int .i64 th,.int .i64 tmi,.int .i64 ts,.string da,.string ST]):=Lib.hid (by unfold toR rfL;simp only;rw[hST])
    clear hST
    have d7:=hc 7 _ rfl
    have HC:=Lib.hid hc
    have hgw:=World.block_lt_of_cell? _ _ d7
    have i0:(0:Int)≤(k:Int):=by omega
    have i1:(k:Int)<(m:Int):=by omega
    clear hc
    go_wp2_with fail
    refine(HAL.out _ Q1.out).mono ?_
    rintro e w5 ⟨S,rfl,hS,hb⟩
    obtain rfl:ST=S:=((strm_eq hS).trans HST.out).symm
    have hb5:=hb.cell (p:=⟨g,o+k*8+0,none⟩) hgw
    have e0:w5.cell? ⟨g,o+k*8,none⟩=some (.string nm):=(hb.cell (p:=⟨g,o+k*8,none⟩) hgw).trans (HC.out 0 _ rfl)
    have e1:w5.cell? ⟨g,o+k*8+1,none⟩=some (.int .i64 ty):=(hb.cell (p:=⟨g,o+k*8+1,none⟩) hgw).trans (HC.out 1 _ rfl)
    have e2:w5.cell? ⟨g,o+k*8+2,none⟩=some (.int .i64 tmo):=(hb.cell (p:=⟨g,o+k*8+2,none⟩) hgw).trans (HC.out 2 _ rfl)
    have e3:w5.cell? ⟨g,o+k*8+3,none⟩=some (.int .i64 td):=(hb.cell (p:=⟨g,o+k*8+3,none⟩) hgw).trans (HC.out 3 _ rfl)
    have e4:w5.cell? ⟨g,o+k*8+4,none⟩=some (.int .i64 th):=(hb.cell (p:=⟨g,o+k*8+4,none⟩) hgw).trans (HC.out 4 _ rfl)
    have e5:w5.cell? ⟨g,o+k*8+5,none⟩=some (.int .i64 tmi):=(hb.cell (p:=⟨g,o+k*8+5,none⟩) hgw).trans (HC.out 5 _ rfl)
    have e6:w5.cell? ⟨g,o+k*8+6,none⟩=some (.int .i64 ts):=(hb.cell (p:=⟨g,o+k*8+6,none⟩) hgw).trans (HC.out 6 _ rfl)
    have e7:w5.cell? ⟨g,o+k*8+7,none⟩=some (.string da):=(hb.cell (p:=⟨g,o+k*8+7,none⟩) hgw).trans (HC.out 7 _ rfl)
    have HRW5:=Lib.hid (own_under HRW.out hb)
    have P5:=Lib.hid (P1.out.trans (hb.mono P1.out.size))
    have Q5:=Lib.hid (Q1.out.trans (hb.mono Q1.out.size))
    have hgw5:g<w5.heap.size:=Nat.lt_of_lt_of_le hgw hb.size
    clear hb hb5 hS d7
    go_upto_region 12 with fail
    obtain⟨A9,c9,rfl⟩:=own_form HRW5.out
    have hgo:(Value.slice A9 k c9).ownBlock≠some g:=by
     intro e
     exact absurd ((HRW5.out.lt g e).1) (by omega)
    obtain⟨W,hW⟩:∃ W,w5=W:=⟨_,rfl⟩
    rw[hW]at HRW5 P5 Q5 hgw5 e0 e1 e2 e3 e4 e5 e6 e7 ⊢
    clear hW
    have hBw:=P5.out.size
    obtain⟨s,hs0⟩:∃ s:Sid,(⟨53,9,.slice A9 k c9,((fs.take k).map (toR lv)).flatMap rfL,[.string nm,.int .i64 ty,.int .i64 tmo,.int .i64 td,.int .i64 th,.int .i64 tmi,.int .i64 ts,.string da,.string ST],18,19,20⟩:Sid)=s:=⟨_,rfl⟩
    have hsT:s.T=53:=by rw[← hs0]
    have hsz:s.sz=9:=by rw[← hs0]
    have hsv:s.v= .slice A9 k c9:=by rw[← hs0]
    have hsx:s.xs=((fs.take k).map (toR lv)).flatMap rfL:=by rw[← hs0]
    have hsn:s.new= [.string nm,.int .i64 ty,.int .i64 tmo,.int .i64 td,.int .i64 th,.int .i64 tmi,.int .i64 ts,.string da,.string ST]:=by rw[← hs0]
    have hsl:s.l=18:=by rw[← hs0]
    have hsp:s.p=19:=by rw[← hs0]
    have hsq:s.q=20:=by rw[← hs0]
    have h3:threeB s=true:=by unfold threeB;rw[hsl,hsp,hsq];rfl
    clear hs0
    have hst0:∀ X,OneP w2.heap.size k W s (fun _=>false) X W.drew:=fun X=>one_start (by rw[hsT,hsz,hsv,hsx];exact HRW5.out) X
    obtain⟨U,f,hU,hf⟩:=worldsS (OneP w2.heap.size k W s)
    have hne:∃ L X w,OneP w2.heap.size k W s L X w:=⟨_,fun _=>undef,_,hst0 _⟩
    have HN:Hid (∀ s u w1,Below (f s u).heap.size (f s u) w1→∃ u',w1=f s u'):=Lib.hid (fun s u w1 hb=>hU s w1 (one_next (hf s u) hb))
    have hsb:∀ j,s.v.ownBlock=some j→w2.heap.size≤j:=fun j hj=>by rw[hsv]at hj;exact(HRW5.out.lt j hj).1
    have x0:∀ s' u,(f s' u).cell? ⟨g,o+k*8,none⟩=some (.string nm):=fun s' u=>(one_far (a:=⟨g,o+k*8,none⟩) (hf s' u) hgw5 (by rw[hsv];exact hgo)).trans e0
    have x1:∀ s' u,(f s' u).cell? ⟨g,o+k*8+1,none⟩=some (.int .i64 ty):=fun s' u=>(one_far (a:=⟨g,o+k*8+1,none⟩) (hf s' u) hgw5 (by rw[hsv];exact hgo)).trans e1
    have x2:∀ s' u,(f s' u).cell? ⟨g,o+k*8+2,none⟩=some (.int .i64 tmo):=fun s' u=>(one_far (a:=⟨g,o+k*8+2,none⟩) (hf s' u) hgw5 (by rw[hsv];exact hgo)).trans e2
    have x3:∀ s' u,(f s' u).cell? ⟨g,o+k*8+3,none⟩=some (.int .i64 td):=fun s' u=>(one_far (a:=⟨g,o+k*8+3,none⟩) (hf s' u) hgw5 (by rw[hsv];exact hgo)).trans e3
    have x4:∀ s' u,(f s' u).cell? ⟨g,o+k*8+4,none⟩=some (.int .i64 th):=fun s' u=>(one_far (a:=⟨g,o+k*8+4,none⟩) (hf s' u) hgw5 (by rw[hsv];exact hgo)).trans e4
    have x5:∀ s' u,(f s' u).cell? ⟨g,o+k*8+5,none⟩=some (.int .i64 tmi):=fun s' u=>(one_far (a:=⟨g,o+k*8+5,none⟩) (hf s' u) hgw5 (by rw[hsv];exact hgo)).trans e5
    have x6:∀ s' u,(f s' u).cell? ⟨g,o+k*8+6,none⟩=some (.int .i64 ts):=fun s' u=>(one_far (a:=⟨g,o+k*8+6,none⟩) (hf s' u) hgw5 (by rw[hsv];exact hgo)).trans e6
    have x7:∀ s' u,(f s' u).cell? ⟨g,o+k*8+7,none⟩=some (.string da):=fun s' u=>(one_far (a:=⟨g,o+k*8+7,none⟩) (hf s' u) hgw5 (by rw[hsv];exact hgo)).trans e7
    refine wp_region_all [18,19,20] (OneP w2.heap.size k W s) (by kernel_rfl) (by kernel_rfl) (fun _=>undef) (hst0 _) ?_
    iterate 18
     apply all_quiet hne hU hf (fun L X w h=>one_still h (by rw[hsl,hsp,hsq];rfl)) (by decide) rfl (by simp)
     ·intro s X hn K' hK'
      go_big_quiet_op
      exact hK'
     ·exact fun _ _=>rfl
    refine all_free (by decide) (by simp) (fun e=>by cases e) (fun X L w hL hP hw K' hK=>?_) (by intro X;simp[Act.put];rfl) ?_
    ·have h7:=one_lit h3 hw (by rw[hsl];exact hL)
     rw[hsl,hsn,hsT]at h7
     unfold Oper.wp
     go_simp
     exact hK _ _ h7
    refine all_free (by decide) (by simp) (fun e=>by cases e) (fun X L w hL hP hw K' hK=>?_) (by intro X;simp[Act.put];rfl) ?_
    ·have h5:L 18=true:=pre_mem hP 18 (by decide)
     obtain⟨v',w',hr,h7⟩:=one_app (P:=Tryz.prog) h3 hw hBw (by rw[hsl];exact h5) (by rw[hsp];exact hL) 49 49 trf (.agg #[.string ⟨#[]⟩,.int .i64 0,.int .i64 0,.int .i64 0,.int .i64 0,.int .i64 0,.int .i64 0,.string ⟨#[]⟩,.string ⟨#[]⟩]) 96 (by rw[hsT];exact Tryz.underlying49) (by rw[hsT];exact trf_info) trf_zero (by rw[hsz];exact trf_size) trf_bytes (by rw[hsz];rfl) (by rw[hsz];decide) (by rw[hsn,hsz];rfl) (by rw[hsn];exact hones) (by omega) (by decide)
     rw[hsp]at h7
     rw[hsv,hsl]at hr
     refine Ri.wp_append_run _ _ 49 rfl rfl rfl hr ?_
     exact hK _ _ h7
    refine all_free (by decide) (by simp) (fun e=>by cases e) (fun X L w hL hP hw K' hK=>?_) (by intro X;simp[Act.put];rfl) ?_
    ·have h5:L 19=true:=pre_mem hP 19 (by decide)
     have h7:=one_asg h3 hw (by rw[hsp];exact h5)
     rw[hsp,hsq]at h7
     unfold Oper.wp
     go_simp
     exact hK _ _ h7
    refine all_nil ?_
    intro X L wx hall hw
    have hd:=one_done hw (by rw[hsq];exact hall 20 (by decide))
    rw[hsq,hsT,hsz,hsx,hsn]at hd
    have HR9:Hid (wx.ownsRow w2.heap.size 53 9 (X 20) (k+1) (((fs.take (k+1)).map (toR lv)).flatMap rfL)):=Lib.hid (by rw[HTK.out,HNEW.out];exact hd.1)
    have hbw:=one_below hw hsb hBw
    have P9:=Lib.hid (P5.out.trans hbw)
    have Q9:=Lib.hid (Q5.out.trans (hbw.mono hQ2))
    clear hw hall hd hbw hst0 hne hU hf x0 x1 x2 x3 x4 x5 x6 x7 hsb hsT hsz hsv hsx hsn hsl hsp hsq h3 hones e0 e1 e2 e3 e4 e5 e6 e7
    go_wp2
    go_roundw
    case rel=>exact⟨k+1,by omega,by go_num,HR9.out,P9.out,Q9.out⟩
    case measure=>simp[intOf];omega
   ·obtain rfl:k=m:=by omega
    have q1:decide ((k:Int)<(k:Int))=false:=decide_eq_false (by omega)
    have q1':decide (k<k)=false:=decide_eq_false (by omega)
    have hall:fs.take k=fs:=List.take_of_length_le (by rw[HML.out];exact Nat.le_refl _)
    rw[hall]at HRW
    clear hall
    obtain⟨A9,c9,rfl⟩:=own_form HRW.out
    have hl9:(fs.map (toR lv)).length=k:=by rw[List.length_map,HML.out]
    have HMK:=Lib.hid (refmake_calls A9 c9 (fs.map (toR lv)) wr (cels_own HRW.out) (by omega) (ac_ok lv fs HOK.out HN5.out) (by have:=ac_size lv fs HOK.out HN5.out;have:=HML.out;omega))
    rw[hl9]at HMK
    go_wp2_with fail
    refine HMK.out.mono ?_
    rintro e w6 ⟨v6,v7,rfl, -, -,hb⟩
    have HEQ:=Lib.hid (arc_todo lv fs)
    obtain⟨WA,hWA⟩:∃ WA,(acL (fs.map (toR lv))).s++tailS (acL (fs.map (toR lv))).hs=WA:=⟨_,rfl⟩
    rw[hWA]at HEQ ⊢
    have P6:=Lib.hid (P1.out.trans (hb.mono P1.out.size))
    have Q6:=Lib.hid (Q1.out.trans (hb.mono Q1.out.size))
    clear hb hWA
    go_wp2_with fail
    refine(HM.out _ P6.out Q6.out).mono ?_
    rintro e w7 ⟨xs,st,rfl,hru,hno,hb⟩
    have he:=runs_join hru hno
    have HJ:Hid (joinS xs=WA):=Lib.hid (he.trans HEQ.out.symm)
    rw[HJ.out]
    have Q7:=Lib.hid (Q6.out.trans (hb.mono Q6.out.size))
    clear hb hru hno he
    go_wp2
    go_ret
    exact⟨rfl,Q7.out⟩
 ·have q1:(a2 != 0)=true:=by simpa using hz
  clear HMG HF HR
  go_wp2
  go_ret
  exact⟨rfl,Q.out⟩
theorem armakes_any (A:Option Addr) (n c:Nat) (l:List Raw) (level:Int) (w:World) (h:l.length=n∧Cels w A (l.flatMap rawC)∧RawOk l∧l.length≤140737488351232) (hl:(Lit.int .i64 level).wf=true) (hT:Tabs w) (hO:OrdT w) (hD:DepT w) :
  Calls Tryz.prog 5 #[.slice A n c,.int .i64 level] w fun e w'=>e= .returned (.bool true)∧Below w.heap.size w w':=by
 obtain⟨rfl,hA,hs,hn⟩:=h
 exact armakes_walk A c l level w hA hn hs (Globs.mk hO hD hT)
end Go.Proofs.YtgiogemkomgkhaaGreatDoor.Ar
