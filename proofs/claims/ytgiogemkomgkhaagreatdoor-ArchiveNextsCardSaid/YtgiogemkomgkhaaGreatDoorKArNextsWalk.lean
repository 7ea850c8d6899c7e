/-
  ArchiveNexts' walk.
-/
import Derived.Test.YtgiogemkomgkhaaGreatDoorKArW
set_option linter.unusedVariables false
set_option linter.unusedSimpArgs false
namespace Go.Proofs.YtgiogemkomgkhaaGreatDoor.Ar
open Go.RowKit Go.Shelf Mg Zp YtgiogemkomgkhaaGreatDoor.Nm Df Cr Bk Mt Ri Rf Bw
def OldRow (lo0 hi:Nat) (w:World) (A:Option Addr) (n:Nat):Prop:=0<n→∃ g cs,A=some ⟨g,0,none⟩∧Blk g cs 42 w∧n*8≤cs.size∧lo0≤g∧g<hi
theorem OldRow.of {w:World} {lo0 n c:Nat} {A:Option Addr} {xs:List Value} (h:w.ownsRow lo0 42 8 (.slice A n c) n xs):OldRow lo0 w.heap.size w A n:=fun hn=>by
 have hlt:=h.lt
 rcases h.2 with⟨h0,rfl⟩|⟨g,cap,cur,h0,h1,hg,hnc,_,hcs,ht⟩
 ·simp only[Value.slice.injEq]at h0;omega
 ·cases h0
  exact⟨g,cur,rfl,hg,by omega,(hlt g rfl).1,(hlt g rfl).2⟩
theorem OldRow.keep {w w':World} {lo0 hi n:Nat} {A:Option Addr} (h:OldRow lo0 hi w A n) (hb:∀ j,j<hi→w'.heap[j]?=w.heap[j]?):OldRow lo0 hi w' A n:=fun hn=>by
 obtain⟨g,cs,e,h1,h2,h3,h4⟩:=h hn
 exact⟨g,cs,e,(hb g h4).trans h1,h2,h3,h4⟩
theorem step_next {level:Nat} {fs:List Fl} {st st':Mst} {x:ByteArray} (h:stepP level fs st=some (x,st')):nextP level fs st=((x,true),st'):=by
 unfold stepP at h
 split at h
 ·rename_i hb
  simp only[Option.some.injEq,Prod.mk.injEq]at h
  obtain⟨h1,h2⟩:=h
  exact Prod.ext (Prod.ext h1 hb) h2
 ·cases h
theorem step_end {level:Nat} {fs:List Fl} {st:Mst} (h:stepP level fs st=none):(nextP level fs st).1=(⟨#[]⟩,false):=by
 unfold stepP at h
 split at h
 ·cases h
 ·rename_i hb
  unfold nextP at hb ⊢
  split at hb
  ·rename_i h0
   rw[if_pos h0]
   split at hb
   ·exact absurd rfl hb
   ·rename_i h1
    rw[if_neg h1]
  ·exact absurd rfl hb
set_option maxHeartbeats 4000000 in
set_option maxRecDepth 100000 in
theorem arnexts_walk (A:Option Addr) (c:Nat) (l:List Raw) (level change:Int) (w:World) (hA:Cels w A (l.flatMap rawC)) (hn:l.length≤140737488351232) (hs:RawOk l) (hG:Globs w.heap.size w) :
  Calls Tryz.prog 3 #[.slice A l.length c,.int .i64 level,.int .i64 change] w fun e w'=>e= .returned (.bool true)∧Below w.heap.size w w':=by
 have HG:=Lib.hid hG
 have HA:=Lib.hid hA
 have HM:=Lib.hid (fun w1 (h:Cels w1 A (l.flatMap rawC))=>armade_calls A c l w1 h hn hs)
 obtain⟨n,hn0⟩:∃ n,l.length=n:=⟨_,rfl⟩
 rw[hn0]at HM
 rw[hn0]
 clear hA hn hs hG hn0
 go_enter Tryz.func3,Tryz.ntmps3
 go_wp2_with fail
 refine(arspeak_calls _ HG.out).mono ?_
 rintro e w1 ⟨rfl,hb1⟩
 have HB1:=Lib.hid hb1
 clear hb1
 go_wp2_with fail
 refine(HM.out w1 (HA.out.below HB1.out)).mono ?_
 rintro e w2 ⟨fs,va,vb,rfl,h6,hsm,ho1,ho2,hb2⟩
 obtain⟨A1,c1,rfl⟩:=own_form ho1
 obtain⟨A2,c2,rfl⟩:=own_form ho2
 have C1:=Lib.hid (cels_own ho1)
 have C2:=Lib.hid (cels_own ho2)
 have OR:=Lib.hid (OldRow.of ho1)
 have HB2:=Lib.hid (HB1.out.trans (hb2.mono HB1.out.size))
 have hsz:∀ f∈fs,f.name.size≤140737488351232∧f.data.size≤1000000:=fun f hf=>by have:=hsm f hf;omega
 have HSM:=Lib.hid hsm
 have HSZ:=Lib.hid hsz
 have hn5:fs.length≤500:=by omega
 have HN5:=Lib.hid hn5
 have HR:=Lib.hid (fun W (h:Below w2.heap.size w2 W)=>refchk_calls A2 c2 fs level W (C2.out.below h) HN5.out (fun f hf=>(HSZ.out f hf).1))
 have HF:=Lib.hid (fun (hc:(checkP fs level).2=0)=>fine_of hc HSM.out)
 have HSG:=Lib.hid (fun (hc:(checkP fs level).2=0) (lv:Nat) (e:level=lv) W (h:Below w2.heap.size w2 W) (h2:Below w.heap.size w W)=>segs_calls A1 c1 fs lv W (C1.out.below h) HN5.out (HF.out hc).2.2 ((HG.out.below h2).mono h2.size) (by have:=(HF.out hc).2.1;omega) (e▸hc))
 have HNG:=Lib.hid (fun (hc:(checkP fs level).2=0) (lv:Nat) (e:level=lv) W (h:Below w2.heap.size w2 W) (h2:Below w.heap.size w W)=>new_calls A1 c1 fs lv W (C1.out.below h) HN5.out HSZ.out (HG.out.below h2).here.2.2 (e▸hc))
 have HFA:=Lib.hid (fun (hc:(checkP fs level).2=0) (lv:Nat)=>fair0 (level:=lv) HN5.out (HF.out hc).2.2)
 have P:=Lib.hid (Below.refl w2.heap.size w2)
 have Q:=HB2
 have QZ:=Lib.hid (Nat.le_trans HB1.out.size (Nat.le_refl _))
 obtain⟨m,hm⟩:∃ m,fs.length=m:=⟨_,rfl⟩
 have hm6:m≤6:=by omega
 obtain⟨a1,a2,ha⟩:∃ a1 a2,checkP fs level=(a1,a2):=⟨_,_,rfl⟩
 rw[ha]at HR HF HSG HNG HFA
 rw[hm]at HR HSG HNG OR
 rw[hm]
 clear ho1 ho2 hb2 hsm hsz hn5 h6 HM hm ha HB2 C1 C2 HSM HSZ HN5 HA
 go_wp2_with fail
 refine(HR.out _ P.out).mono ?_
 rintro e w3 ⟨rfl,hb⟩
 replace P:=Lib.hid (P.out.trans (hb.mono P.out.size))
 replace Q:=Lib.hid (Q.out.trans (hb.mono Q.out.size))
 clear hb
 by_cases hz:a2=0
 ·obtain⟨lv,e⟩:∃ lv:Nat,level=lv:=⟨level.toNat,by have:=(HF.out hz).1;omega⟩
  subst hz
  have hlv:lv≤9:=by have:=(HF.out rfl).2.1;omega
  have HLV:=Lib.hid hlv
  have HS:=Lib.hid (HSG.out rfl lv e)
  have HN:=Lib.hid (HNG.out rfl lv e)
  have HFF:=Lib.hid (HFA.out rfl lv)
  subst e
  clear HSG HNG HF HR HFA hlv
  go_wp2_with fail
  refine(HS.out _ P.out Q.out).mono ?_
  rintro e w4 ⟨A',c',xs,fin,rfl,hr,hst,hcel,hb,hbk, -,hxl⟩
  have HW1:=Lib.hid hbk
  have HCW:=Lib.hid hcel
  have HRN:=Lib.hid hr
  have HST:=Lib.hid hst
  have z3:=P.out.size
  have Z3:=Lib.hid z3
  have z34:=Lib.hid hb.size
  have HBW:=Lib.hid (Nat.le_trans Q.out.size hb.size)
  replace P:=Lib.hid (P.out.trans (hb.mono P.out.size))
  replace Q:=Lib.hid (Q.out.trans (hb.mono Q.out.size))
  clear hb hbk hcel hr hst
  obtain⟨r,hxr⟩:∃ r,xs.length=r:=⟨_,rfl⟩
  have HXR:=Lib.hid hxr
  rw[hxr]at hxl
  rw[hxr]
  clear hxr
  go_wp2_with fail
  refine(HN.out _ P.out Q.out).mono ?_
  rintro e w5 ⟨mm,T,vf,rfl,hmk,hb⟩
  have HB5:=Lib.hid hb
  have HMK:=Lib.hid hmk
  replace P:=Lib.hid (P.out.trans (hb.mono P.out.size))
  replace Q:=Lib.hid (Q.out.trans (hb.mono Q.out.size))
  clear hb hmk
  have OR5:=Lib.hid (OR.out.keep (w':=w5) (fun j hj=>P.out.block j hj))
  have HC5:=Lib.hid (HCW.out.below HB5.out)
  have HL3:Hid (w2.heap.size≤w4.heap.size):=Lib.hid (Nat.le_trans z3 z34.out)
  clear z3
  go_wp2
  go_loopw [15] (fun vi wr=>∃ (k:Nat) (st:Mst) (vh:Value),vi= .int .i64 k∧k≤r∧Runs (stepP lv fs) st (xs.drop k) fin∧Fair lv fs st∧MkAt wr w4.heap.size mm T lv fs vf st vh∧Cels wr A' (xs.flatMap strC)∧OldRow w1.heap.size w2.heap.size wr A1 m∧Below w.heap.size w wr) (fun vi _=>r - (intOf vi).toNat)
  case atStart=>exact⟨0,start0,.slice none 0 0,rfl,by omega,HRN.out,HFF.out,HMK.out,HC5.out,OR5.out,Q.out⟩
  case round =>
   obtain⟨k,st,vh,rfl,hk,hrun,hfair,hmk,hcw,hold,hbl⟩:=hrel
   have HRU:=Lib.hid hrun
   have HFR:=Lib.hid hfair
   have HMK2:=Lib.hid hmk
   have HCW2:=Lib.hid hcw
   have HOL:=Lib.hid hold
   have HBL:=Lib.hid hbl
   clear hrun hfair hmk hcw hold hbl
   by_cases hkr:k<r
   ·have q1:decide ((k:Int)<(r:Int))=true:=decide_eq_true (by omega)
    have hkx:k<xs.length:=by rw[HXR.out];exact hkr
    obtain⟨x,hx⟩:∃ x,xs[k]?=some x:=⟨_,List.getElem?_eq_getElem hkx⟩
    obtain⟨st',hst',hrun'⟩:∃ st',stepP lv fs st=some (x,st')∧Runs (stepP lv fs) st' (xs.drop (k+1)) fin:=by
     have h:=HRU.out
     rw[List.drop_eq_getElem_cons hkx]at h
     have e:xs[k]=x:=by rw[List.getElem?_eq_getElem hkx]at hx;exact Option.some.inj hx
     rw[e]at h
     cases h with
     | cons h1 h2=>exact⟨_,h1,h2⟩
    obtain⟨gw,ow,rfl,hd⟩:=HCW.out.of strC_len (by decide) k x hx
    have d0:=hd 0 _ rfl
    simp only[Nat.mul_one,Nat.add_zero]at d0
    have hgw:=World.block_lt_of_cell? _ _ d0
    obtain⟨gw2,ow2,e2,hd2⟩:=HCW2.out.of strC_len (by decide) k x hx
    cases e2
    have d2:=hd2 0 _ rfl
    simp only[Nat.mul_one,Nat.add_zero]at d2
    have HGW:=Lib.hid hgw
    have HD2:=Lib.hid d2
    have HNX:=Lib.hid (mnext_calls w4.heap.size mm T lv fs vf st vh wr HMK2.out HFR.out ((HG.out.below HBL.out).mono (by have:=HBW.out;omega)) HLV.out)
    have hnx:=step_next hst'
    have HRU':=Lib.hid hrun'
    have HFR':=Lib.hid (HFR.out.step hst')
    clear hd d0 hd2 d2 hgw hst' hrun' hkx
    go_wp2_with fail
    refine HNX.out.mono ?_
    rintro e w6 ⟨vh',rfl,hmk6,hmv, -⟩
    rw[hnx]
    rw[hnx]at hmk6
    have hlo:=HMK2.out.lo_le
    have hkeep:∀ j,j<w4.heap.size→w6.heap[j]?=wr.heap[j]?:=fun j hj=>hmv.block j (by omega) (fun e=>by
     rcases e with e|e
     ·omega
     ·have:=hlo.2.2 j e;omega)
    have d6:w6.cell? ⟨gw,ow+k,none⟩=some (.string x):=(World.cell?_of_block (a:=⟨gw,ow+k,none⟩) (hkeep gw HGW.out)).trans HD2.out
    have HCW6:Hid (Cels w6 (some ⟨gw,ow,none⟩) (xs.flatMap strC)):=Lib.hid (fun k2 hk2=>by
     obtain⟨g3,o3,e3,h3⟩:=HCW2.out k2 hk2
     cases e3
     exact⟨gw,ow,rfl,(World.cell?_of_block (a:=⟨gw,ow+k2,none⟩) (hkeep gw HGW.out)).trans h3⟩)
    have HOL6:=Lib.hid (HOL.out.keep (w':=w6) (fun j hj=>hkeep j (Nat.lt_of_lt_of_le hj HL3.out)))
    have HMK6:=Lib.hid hmk6
    have HB6:=Lib.hid (HBL.out.trans ((hmv.below (lo:=w.heap.size) (by have:=HBW.out;omega) (fun g hg=>by have:=hlo.2.2 g hg;have:=HBW.out;omega) HBL.out.size).mono (Nat.le_refl _)))
    clear hmk6 hmv hnx hkeep hlo
    cases q3:((k:Int) == Go.bits .and .i64 change 7) with
    | false =>
     go_wp2
     go_roundw
     case rel=>exact⟨k+1,st',vh',by go_num,by omega,HRU'.out,HFR'.out,HMK6.out,HCW6.out,HOL6.out,HB6.out⟩
     case measure=>simp[intOf];omega
    | true =>
     by_cases hm0:m=0
     ·subst hm0
      go_wp2
      go_roundw
      case rel=>exact⟨k+1,st',vh',by go_num,by omega,HRU'.out,HFR'.out,HMK6.out,HCW6.out,HOL6.out,HB6.out⟩
      case measure=>simp[intOf];omega
     ·have q4:decide (0<(m:Int))=true:=decide_eq_true (by omega)
      obtain⟨ga,cs,rfl,KA,hsz,hg1,hg2⟩:=HOL6.out (by omega)
      obtain⟨p,hp⟩:∃ p,p+1=m:=⟨m - 1,by omega⟩
      have ep:(m:Int) - 1=(p:Int):=by omega
      have i0:(0:Int)≤(p:Int):=by omega
      have i1:(p:Int)<(m:Int):=by omega
      have fz:=KA.frozen (p*8+7)
      obtain⟨y,hy⟩:∃ y,cs[p*8+7]?=some y:=⟨_,Array.getElem?_eq_getElem (xs:=cs) (by omega)⟩
      have c0:=(KA.cell (p*8+7)).trans hy
      have HKA:=Lib.hid KA
      clear hy KA
      go_wp2
      have hne:∀ j,ga≠j→(w6.setCell ⟨ga,p*8+7,none⟩ (.string ⟨#[111,116,104,101,114]⟩)).heap[j]?=w6.heap[j]?:=fun j hj=>Below.heap_setCell _ _ _ _ (Ne.symm hj)
      have hg3:ga<w4.heap.size:=Nat.lt_of_lt_of_le hg2 HL3.out
      have hg4:ga≠gw:=by have:=HW1.out _ _ rfl;have:=Z3.out;omega
      have hlo6:=HMK6.out.lo_le
      go_roundw
      case rel =>
       refine⟨k+1,st',vh',by go_num,by omega,HRU'.out,HFR'.out,HMK6.out.keep (fun j hj hj2=>hne j (by omega)) (fun j hj=>hne j (by have:=hlo6.2.2 j hj;omega)),fun k2 hk2=>?_,fun _=>⟨ga,_,rfl,HKA.out.setTo _ _ rfl,by simpa using hsz,hg1,hg2⟩,HB6.out.setCell (p:=⟨ga,p*8+7,none⟩) (Nat.le_trans HB1.out.size hg1) _⟩
       obtain⟨g3,o3,e3,h3⟩:=HCW6.out k2 hk2
       cases e3
       exact⟨gw,ow,rfl,(World.cell?_of_block (a:=⟨gw,ow+k2,none⟩) (hne gw hg4)).trans h3⟩
      case measure=>simp[intOf];omega
   ·have q1:decide ((k:Int)<(r:Int))=false:=decide_eq_false (by omega)
    have hend:stepP lv fs st=none:=by
     have h:=HRU.out
     rw[List.drop_of_length_le (by rw[HXR.out];omega)]at h
     cases h
     exact HST.out
    have HNX:=Lib.hid (mnext_calls w4.heap.size mm T lv fs vf st vh wr HMK2.out HFR.out ((HG.out.below HBL.out).mono (by have:=HBW.out;omega)) HLV.out)
    have hne:=step_end hend
    go_wp2_with fail
    refine HNX.out.mono ?_
    rintro e w6 ⟨vh',rfl,hmk6,hmv, -⟩
    rw[hne]
    have HB6:=Lib.hid (hmv.below (lo:=w.heap.size) (by have:=HMK2.out.lo_le;have:=HBW.out;omega) (fun g hg=>by have:=HMK2.out.lo_le.2.2 g hg;have:=HBW.out;omega) HBL.out.size)
    clear hmk6 hmv hne hend
    go_wp2_with (first|(refine(next_nil _).mono ?_;rintro e w7 ⟨rfl,rfl⟩))
    go_ret
    exact⟨rfl,HBL.out.trans (HB6.out.mono (Nat.le_refl _))⟩
 ·have q1:(a2 != 0)=true:=by simpa using hz
  go_wp2
  go_ret
  exact⟨rfl,Q.out⟩
theorem arnexts_any (A:Option Addr) (n c:Nat) (l:List Raw) (level change:Int) (w:World) (h:l.length=n∧Cels w A (l.flatMap rawC)∧RawOk l∧l.length≤140737488351232) (hl:(Lit.int .i64 level).wf=true) (hc:(Lit.int .i64 change).wf=true) (hT:Tabs w) (hO:OrdT w) (hD:DepT w) :
  Calls Tryz.prog 3 #[.slice A n c,.int .i64 level,.int .i64 change] w fun e w'=>e= .returned (.bool true)∧Below w.heap.size w w':=by
 obtain⟨rfl,hA,hs,hn⟩:=h
 exact arnexts_walk A c l level change w hA hn hs (Globs.mk hO hD hT)
end Go.Proofs.YtgiogemkomgkhaaGreatDoor.Ar
