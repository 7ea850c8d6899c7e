/-
  Merge: pairs of packs, two by two.
-/
import Derived.Test.YtgiogemkomgkhaaGreatDoorKMgB
import Derived.Deep.RegionHeld3
set_option linter.unusedVariables false
set_option linter.unusedSimpArgs false
namespace Go.Proofs.YtgiogemkomgkhaaGreatDoor.Mg
open Go.ChangeShapes Go.WideShapes Go.ChangeAt Go.RowKit Go.Shelf Go.Proofs
noncomputable def pk_ti:TypeInfo:=(Tryz.prog.info? 219).get (by kernel_rfl)
set_option maxHeartbeats 4000000 in
set_option maxRecDepth 200000 in
theorem pairs_calls (v:Value) (qs:List PV) (w:World) (hr:Rd w 219 2 v qs.length (pcells qs)) (hin:Ins w qs) (hn:qs.length≤1000)
  (hc:∀ q∈qs,0≤q.cost∧q.cost≤2 ^ 60) (hi1:∀ q∈qs,1≤q.ins.length∧q.ins.length≤500000) :
  Calls Tryz.prog 144 #[v] w fun e w'=>∃ v' qs',e= .returned v'∧w'.ownsRow w.heap.size 219 2 v' (List.length qs') (pcells qs')∧Ins w' qs'∧qs'.map PV.pure=pairsP (qs.map PV.pure)∧Low w.heap.size qs'∧Below w.heap.size w w':=by
 have hi:Tryz.prog.info? 219=some pk_ti:=by kernel_rfl
 have hz0:pk_ti.zero=some (.agg #[.int .i64 0,.slice none 0 0]):=by kernel_rfl
 have hz1:pk_ti.size=2:=by kernel_rfl
 have hz2:pk_ti.bytes=32:=by kernel_rfl
 obtain⟨g,o,c,rfl,hcap,hcs⟩:=hr.pack
 have HIN:=Lib.hid hin
 have HC:=Lib.hid hc
 have HI:=Lib.hid hi1
 have HCS:=Lib.hid hcs
 clear hr hin hc hi1 hcs
 go_enter Tryz.func144,Tryz.ntmps144
 go_wp2
 go_loopw [3,4] (fun v i wr=>∃ (k m:Nat) (qs':List PV),m=2*k∧m≤qs.length∧i= .int .i64 m∧qs'.length=k∧qs'.map PV.pure=(pairsP (qs.map PV.pure)).take k∧wr.ownsRow w.heap.size 219 2 v k (pcells qs')∧Ins wr qs'∧Low w.heap.size qs'∧Below w.heap.size w wr) (fun _ i _=>qs.length+1 - (intOf i).toNat)
 case atStart=>exact⟨0,0,[],rfl,Nat.zero_le _,rfl,rfl,by simp,World.ownsRow_nil _ _ _ _,fun q h=>(by cases h),fun q h=>(by cases h),Below.refl _ _⟩
 case round =>
  obtain⟨k,m,qs',hm,hk,rfl,hl,hpu,hown,hins,hlw,hbw⟩:=hrel
  have HLW:=Lib.hid hlw
  have HM:=Lib.hid hm
  have HP:=Lib.hid hpu
  have HS:=Lib.hid hins
  have HB:=Lib.hid hbw
  have hB1:=hbw.size
  have HL:=Lib.hid hl
  clear hl hpu hins hbw hlw
  by_cases hlt:m+1<qs.length
  ·have q1:decide ((m:Int)+1<(qs.length:Int))=true:=decide_eq_true (by omega)
   have hk3:k≤1000:=by omega
   have hlm:m<qs.length:=Nat.lt_of_succ_lt hlt
   have e0:=HCS.out m hlm
   have e1:=HCS.out (m+1) hlt
   have d0:=HC.out qs[m] (List.getElem_mem _)
   have d1:=HC.out qs[m+1] (List.getElem_mem _)
   have i0:=HI.out qs[m] (List.getElem_mem _)
   have i1:=HI.out qs[m+1] (List.getElem_mem _)
   have r0:=(HIN.out qs[m] (List.getElem_mem _)).below HB.out
   have r1:=(HIN.out qs[m+1] (List.getElem_mem _)).below HB.out
   obtain⟨a,ha⟩:∃ a,qs[m]=a:=⟨_,rfl⟩
   obtain⟨b,hb⟩:∃ b,qs[m+1]=b:=⟨_,rfl⟩
   rw[ha]at e0 d0 i0 r0
   rw[hb]at e1 d1 i1 r1
   obtain⟨ca,va,ia⟩:=a
   obtain⟨cb,vb,ib⟩:=b
   simp only at e0 e1 d0 d1 i0 i1 r0 r1
   have hbb0:o+2*(m+1)=o+(m+1)*2:=by omega
   have hbb1:o+2*m=o+m*2:=by omega
   rw[hbb0]at e1
   rw[hbb1]at e0
   clear hbb0 hbb1
   have HA:=Lib.hid ha
   have HBB:=Lib.hid hb
   have HR0:=Lib.hid r0
   have HR1:=Lib.hid r1
   have w1:IntKind.i64.wrap (ca+cb)=ca+cb:=by rw[IntKind.wrap_i64];omega
   have w2:IntKind.i64.wrap ((m:Int)+1)=(m:Int)+1:=by rw[IntKind.wrap_i64];omega
   obtain⟨ga,oa,cca,rfl,_,_⟩:=r0.cell
   obtain⟨gb,ob,ccb,rfl,_,_⟩:=r1.cell
   clear ha hb r0 r1 hm
   have HCT:=Lib.hid (concat_two (.slice (some ⟨ga,oa,none⟩) ia.length cca) (.slice (some ⟨gb,ob,none⟩) ib.length ccb) ia.length ib.length ia ib wr HR0.out HR1.out (by omega) (by omega))
   have f0:(0:Int)≤(m:Int):=by omega
   have f1:(m:Int)<(qs.length:Int):=by omega
   have f2:(0:Int)≤(m:Int)+1:=by omega
   have f3:(m:Int)+1<(qs.length:Int):=by omega
   have HF:Hid (∀ wx:World,Below w.heap.size w wx→wx.cell? ⟨g,o+m*2,none⟩=some (.int .i64 ca)∧wx.cell? ⟨g,o+m*2+1,none⟩=some (.slice (some ⟨ga,oa,none⟩) ia.length cca)∧wx.cell? ⟨g,o+(m+1)*2,none⟩=some (.int .i64 cb)∧wx.cell? ⟨g,o+(m+1)*2+1,none⟩=some (.slice (some ⟨gb,ob,none⟩) ib.length ccb)):=Lib.hid (fun wx hb=>⟨(hb.cell (World.block_lt_of_cell? w _ e0.1)).trans e0.1,(hb.cell (World.block_lt_of_cell? w _ e0.2)).trans e0.2,(hb.cell (World.block_lt_of_cell? w _ e1.1)).trans e1.1,(hb.cell (World.block_lt_of_cell? w _ e1.2)).trans e1.2⟩)
   obtain⟨c0,c1,c2,c3⟩:=HF.out wr HB.out
   have HB1:=Lib.hid ((HB.out.alloc hB1 (.cells #[.slice (some ⟨ga,oa,none⟩) ia.length cca,.slice (some ⟨gb,ob,none⟩) ib.length ccb] 55)).drew)
   have HB2:Hid (∀ W:World,Below wr.heap.size wr W→Below w.heap.size w W):=Lib.hid (fun W hb=>HB.out.trans (hb.mono hB1))
   have HBZ:Hid (∀ W:World,Below wr.heap.size wr W→w.heap.size≤W.heap.size):=Lib.hid (fun W hb=>Nat.le_trans hB1 hb.size)
   have hbz:∀ W:World,Below wr.heap.size wr W→∀ X,w.heap.size≤(W.alloc X).heap.size:=fun W hb X=>by
    have:=hb.size
    show _≤(Array.push _ _).size
    simp
    omega
   have hlow:∀ r,u3.ownBlock=some r→w.heap.size≤r:=fun r e=>(hown.lt r e).1
   have HQ:Hid (∀ W W3:World,Below wr.heap.size wr W→∀ X,(W.alloc X).grownBy W3 u3.ownBlock→Below w.heap.size w W3):=Lib.hid (fun W W3 hb X hg=>((HB2.out W hb).alloc (HBZ.out W hb) X).grown hg (hbz W hb X) hlow)
   have HOW:=Lib.hid hown
   have HZ:=Lib.hid hbz
   clear e0 e1 hlow hown hbz
   go_wp2_with fail
   go_region_held3 (fun wx=>wx.cell? ⟨g,o+m*2,none⟩=some (.int .i64 ca)∧wx.cell? ⟨g,o+m*2+1,none⟩=some (.slice (some ⟨ga,oa,none⟩) ia.length cca)∧wx.cell? ⟨g,o+(m+1)*2,none⟩=some (.int .i64 cb)∧wx.cell? ⟨g,o+(m+1)*2+1,none⟩=some (.slice (some ⟨gb,ob,none⟩) ib.length ccb)) (first|exact⟨c0,c1,c2,c3⟩|exact HF.out _ HB1.out|exact HF.out _ (HB2.out _ hb2)|exact HF.out _ ((HB2.out _ hb2).alloc (HBZ.out _ hb2) _)|exact HF.out _ (HQ.out _ _ hb2 _ hg3)) (first|(go_at_call 121;refine HCT.out.mono ?_;rintro e W2 ⟨gn,cn,rfl,ho2,hb2⟩)|(refine step_append_lies _ rfl _ _ 217 rfl w.heap.size 219 pk_ti (.agg #[.int .i64 0,.slice none 0 0]) 2 32 Tryz.underlying217 hi hz0 hz1 hz2 rfl (by decide) _ _ _ rfl ((own_below HOW.out hb2).alloc _) ⟨W2.heap.size,0,none⟩ 1 1 [.int .i64 (ca+cb),.slice (some ⟨gn,0,none⟩) (ia.length+ib.length) cn] rfl rfl (news_two _ _ _ _) (two_one _ _ _ _) (by decide) ?c3 ?c4 ?c5 _ rfl ?_;(case c3=>unfold maxLen;omega);(case c4=>omega);(case c5=>exact HZ.out _ hb2 _);intro g2 cap2 W3 hown3 hg3 hat3 hlt3))
   have HO3:=Lib.hid hown3
   have HI3:Hid (Ins W3 (qs' ++ [⟨ca+cb,.slice (some ⟨gn,0,none⟩) (ia.length+ib.length) cn,ia++ib⟩])):=Lib.hid (by
    have h1:Ins W2 (qs' ++ [⟨ca+cb,.slice (some ⟨gn,0,none⟩) (ia.length+ib.length) cn,ia++ib⟩]):=by
     refine(HS.out.below hb2).append fun q hq=>?_
     obtain rfl:=List.mem_singleton.1 hq
     have:=Rd.own ho2 (by intro e;cases e)
     simpa using this
    exact(h1.below ((Below.refl _ _).alloc (Nat.le_refl _) _)).grown ((own_below HOW.out hb2).alloc _) hg3)
   have HB3:=Lib.hid (HQ.out _ _ hb2 _ hg3)
   have HP3:Hid ((qs' ++ [(⟨ca+cb,.slice (some ⟨gn,0,none⟩) (ia.length+ib.length) cn,ia++ib⟩:PV)]).map PV.pure=(pairsP (qs.map PV.pure)).take (k+1)):=Lib.hid (by
    have hm2:=HM.out
    subst hm2
    rw[List.map_append,HP.out,List.take_add_one,pairsP_get _ k (by simpa using hlt)]
    simp only[List.getElem_map,HA.out,HBB.out]
    rfl)
   have HL3:Hid (Low w.heap.size (qs' ++ [⟨ca+cb,.slice (some ⟨gn,0,none⟩) (ia.length+ib.length) cn,ia++ib⟩])):=Lib.hid (fun q hq=>by
    rcases List.mem_append.1 hq with h|h
    ·exact HLW.out q h
    ·obtain rfl:=List.mem_singleton.1 h
     exact⟨gn,0,_,cn,rfl,Nat.le_trans hB1 (ho2.lt gn rfl).1⟩)
   clear hown3 hg3 hb2 ho2 hat3 hlt3
   have w3:IntKind.i64.wrap ((m:Int)+2)=(m:Int)+2:=by rw[IntKind.wrap_i64];omega
   go_wp2
   go_roundw
   case rel=>exact⟨k+1,m+2,_,by have:=HM.out;omega,by omega,by go_num,by rw[List.length_append,HL.out];rfl,HP3.out,by rw[pcells_append];exact HO3.out,HI3.out,HL3.out,HB3.out⟩
   case measure=>simp[intOf];omega
  ·have q1:decide ((m:Int)+1<(qs.length:Int))=false:=decide_eq_false (by omega)
   have w2:IntKind.i64.wrap ((m:Int)+1)=(m:Int)+1:=by rw[IntKind.wrap_i64];omega
   have HP3:Hid (qs'.map PV.pure=pairsP (qs.map PV.pure)):=Lib.hid (by
    rw[HP.out]
    exact List.take_of_length_le (by rw[pairsP_len,List.length_map];have:=HM.out;omega))
   have HO3:=Lib.hid hown
   clear hown
   go_wp2
   go_ret
   exact⟨_,qs',rfl,by rw[HL.out];exact HO3.out,HS.out,HP3.out,HLW.out,HB.out⟩
end Go.Proofs.YtgiogemkomgkhaaGreatDoor.Mg
namespace Go.Proofs.YtgiogemkomgkhaaGreatDoor.Mg
open Go.ChangeShapes Go.WideShapes Go.ChangeAt Go.RowKit Go.Shelf Go.Proofs
def leP (x y:Int×List Nat):Bool:=decide (x.1≤y.1)
def joinP (a b:List (Int×List Nat)):List (Int×List Nat):=List.merge a b leP
def slen:Value→Nat | .slice _ n _=>n|_=>0
theorem three_cells (w:World) (u v x:Value) (t:TypeId):∀ j (h:j<3),(w.alloc (.cells #[u,v,x] t)).cell? ⟨w.heap.size,j,none⟩=some (if j=0 then u else if j=1 then v else x):=by
 intro j hj
 simp only[World.cell?]
 rw[heap_new]
 rcases j with _|_|_|j
 ·rfl
 ·rfl
 ·rfl
 ·omega
theorem pcells_one {w:World} {qs:List PV} (h:Ins w qs):∀ u∈pcells qs,u.oneCell'=true:=by
 intro u hu
 unfold pcells at hu
 obtain⟨q,hq,hu⟩:=List.mem_flatMap.1 hu
 obtain⟨_,g,o,c,cur,fr,hv,_⟩:=h q hq
 simp only[List.mem_cons,List.not_mem_nil,or_false]at hu
 rcases hu with rfl|rfl
 ·rfl
 ·rw[hv];rfl
theorem concat_three (v1 v2 v3:Value) (a b d:List PV) (w:World) (h1:Rd w 219 2 v1 a.length (pcells a)) (h2:Rd w 219 2 v2 b.length (pcells b)) (h3:Rd w 219 2 v3 d.length (pcells d))
  (i1:Ins w a) (i2:Ins w b) (i3:Ins w d) (hp:0<a.length) (hb:a.length+b.length+d.length≤1000000) :
  Calls Tryz.prog 161 #[.slice (some ⟨w.heap.size,0,none⟩) 3 3] (w.alloc (.cells #[v1,v2,v3] 217)) fun e w'=>∃ v,e= .returned v∧w'.ownsRow w.heap.size 219 2 v (a++b++d).length (pcells (a++b++d))∧Ins w' (a++b++d)∧Below w.heap.size w w':=by
 have hB0:Below w.heap.size w (w.alloc (.cells #[v1,v2,v3] 217)):=(Below.refl w.heap.size w).alloc (Nat.le_refl _) _
 have hsz:(w.alloc (.cells #[v1,v2,v3] 217)).heap.size=w.heap.size+1:=by
  show(w.heap.push _).size=_
  simp
 refine(cp_calls w.heap.size 3 [(v1,a.length,pcells a),(v2,b.length,pcells b),(v3,d.length,pcells d)] _ ?_ ?_ ?_ ?_ ?_ (by simp)).mono ?_
 ·intro j hj
  have hj2:j<3:=by simpa using hj
  rw[three_cells w v1 v2 v3 _ j hj2]
  rcases j with _|_|_|j
  ·rfl
  ·rfl
  ·rfl
  ·omega
 ·intro j hj
  have hj2:j<3:=by simpa using hj
  rcases j with _|_|_|j
  ·exact h1.below hB0
  ·exact h2.below hB0
  ·exact h3.below hB0
  ·omega
 ·intro j hj
  have hj2:j<3:=by simpa using hj
  rcases j with _|_|_|j
  ·exact pcells_one i1
  ·exact pcells_one i2
  ·exact pcells_one i3
  ·omega
 ·simp[cp_sum];omega
 ·simp[cp_sum];omega
 ·rintro e w' ⟨v,rfl,ho,hb2⟩
  have e1:cp_sum [(v1,a.length,pcells a),(v2,b.length,pcells b),(v3,d.length,pcells d)] 3=(a++b++d).length:=by simp[cp_sum,Nat.add_assoc]
  have e2:cp_cat [(v1,a.length,pcells a),(v2,b.length,pcells b),(v3,d.length,pcells d)] 3=pcells (a++b++d):=by simp[cp_cat,pcells_append]
  have hB:Below w.heap.size w w':=hB0.trans (hb2.mono (by rw[hsz];omega))
  exact⟨v,rfl,own_lower (by rw[← e1,← e2];exact ho) (by rw[hsz];omega),((i1.append i2).append i3).below hB,hB⟩
theorem Rd.tail {w:World} {g o c n:Nat} {q:PV} {r:List PV} (h:Rd w 219 2 (.slice (some ⟨g,o,none⟩) n c) (q::r).length (pcells (q::r))):Rd w 219 2 (.slice (if c=1 then some ⟨g,o,none⟩ else some ⟨g,o+2,none⟩) r.length (c - 1)) r.length (pcells r):=by
 obtain⟨h1,g',o',c',cur,fr,h2,h3,h4,h5⟩:=h
 cases h2
 by_cases hc:c=1
 ·subst hc
  have hr:r.length=0:=by simp at h3;simp[h3]
  rw[if_pos rfl]
  refine⟨pcells_len r,g,o,1 - 1,cur,fr,rfl,by omega,h4,fun j hj=>?_⟩
  rw[pcells_len,hr]at hj
  omega
 ·rw[if_neg hc]
  refine⟨pcells_len r,g,o+2,c - 1,cur,fr,rfl,by simp at h3;omega,h4,fun j hj=>?_⟩
  have h6:=h5 (j+2) (by rw[pcells_cons];simp;omega)
  rw[show o+2+j=o+(j+2) by omega,h6]
  rfl
theorem own_slice' {w:World} {base:Nat} {e:TypeId} {size:Nat} {v:Value} {n:Nat} {xs:List Value} (h:w.ownsRow base e size v n xs):∃ A c,v= .slice A n c:=by
 obtain⟨_,⟨rfl,rfl⟩|⟨g,cap,cur,rfl,_⟩⟩:=h
 ·exact⟨none,0,rfl⟩
 ·exact⟨_,_,rfl⟩
theorem join_nil_left (b:List (Int×List Nat)):joinP [] b=b:=by simp[joinP]
theorem join_nil_right (a:List (Int×List Nat)):joinP a []=a:=by simp[joinP]
theorem join_left (x y:Int×List Nat) (a b:List (Int×List Nat)) (h:x.1≤y.1):joinP (x::a) (y::b)=x::joinP a (y::b):=by
 unfold joinP
 rw[List.cons_merge_cons_pos]
 exact decide_eq_true h
theorem join_right (x y:Int×List Nat) (a b:List (Int×List Nat)) (h:¬ x.1≤y.1):joinP (x::a) (y::b)=y::joinP (x::a) b:=by
 unfold joinP
 rw[List.cons_merge_cons_neg]
 simp[leP];omega
end Go.Proofs.YtgiogemkomgkhaaGreatDoor.Mg
namespace Go.Proofs.YtgiogemkomgkhaaGreatDoor.Mg
open Go.ChangeShapes Go.WideShapes Go.ChangeAt Go.RowKit Go.Shelf Go.Proofs
set_option maxHeartbeats 4000000 in
set_option maxRecDepth 200000 in
theorem joined_calls (va vb:Value) (qa qb:List PV) (w:World) (ha:Rd w 219 2 va qa.length (pcells qa)) (hb:Rd w 219 2 vb qb.length (pcells qb)) (ia:Ins w qa) (ib:Ins w qb)
  (ha0:0<qa.length) (hb0:0<qb.length) (hn:qa.length+qb.length≤1000) :
  Calls Tryz.prog 143 #[va,vb] w fun e w'=>∃ v' qs',e= .returned v'∧w'.ownsRow w.heap.size 219 2 v' (List.length qs') (pcells qs')∧Ins w' qs'∧qs'.map PV.pure=joinP (qa.map PV.pure) (qb.map PV.pure)∧(∀ q∈qs',q∈qa++qb)∧Below w.heap.size w w':=by
 have hi:Tryz.prog.info? 219=some pk_ti:=by kernel_rfl
 have hz0:pk_ti.zero=some (.agg #[.int .i64 0,.slice none 0 0]):=by kernel_rfl
 have hz1:pk_ti.size=2:=by kernel_rfl
 have hz2:pk_ti.bytes=32:=by kernel_rfl
 have HA:=Lib.hid ha
 have HB:=Lib.hid hb
 have HIA:=Lib.hid ia
 have HIB:=Lib.hid ib
 obtain⟨A0,hA⟩:∃ l,l=joinP (qa.map PV.pure) (qb.map PV.pure):=⟨_,rfl⟩
 rw[← hA]
 have HJ:=Lib.hid hA
 clear ha hb ia ib hA
 go_enter Tryz.func143,Tryz.ntmps143
 go_wp2
 go_loopw [0,1,5] (fun va vb v wr=>∃ (ra rb qs':List PV),Rd w 219 2 va ra.length (pcells ra)∧Rd w 219 2 vb rb.length (pcells rb)∧Ins w ra∧Ins w rb∧qs'.length+ra.length+rb.length=qa.length+qb.length∧(qs'= []→0<ra.length∧0<rb.length) ∧
  qs'.map PV.pure++joinP (ra.map PV.pure) (rb.map PV.pure)=A0∧wr.ownsRow w.heap.size 219 2 v qs'.length (pcells qs')∧Ins wr qs'∧((∀ q∈qs',q∈qa++qb)∧(∀ q∈ra,q∈qa)∧(∀ q∈rb,q∈qb))∧Below w.heap.size w wr) (fun va vb _ _=>slen va+slen vb)
 case atStart=>exact⟨qa,qb,[],HA.out,HB.out,HIA.out,HIB.out,by simp,fun _=>⟨ha0,hb0⟩,by rw[HJ.out];rfl,World.ownsRow_nil _ _ _ _,fun q h=>(by cases h),⟨fun q h=>(by cases h),fun _ h=>h,fun _ h=>h⟩,Below.refl _ _⟩
 case round =>
  obtain⟨ra,rb,qs',hra,hrb,ira,irb,hlen,hne,hpu,hown,hins,hmem,hbw⟩:=hrel
  have HMM:=Lib.hid hmem
  clear hmem
  have HRA:=Lib.hid hra
  have HRB:=Lib.hid hrb
  have HIRA:=Lib.hid ira
  have HIRB:=Lib.hid irb
  have HNE:=Lib.hid hne
  have HP:=Lib.hid hpu
  have HS:=Lib.hid hins
  have HBW:=Lib.hid hbw
  have hB1:=hbw.size
  have HLN:=Lib.hid hlen
  have hk3:qs'.length≤1000:=by omega
  obtain⟨ga,oa,ca,rfl,hca,hcsa⟩:=hra.pack
  obtain⟨gb,ob,cb,rfl,hcb,hcsb⟩:=hrb.pack
  have HCA:=Lib.hid hcsa
  have HCB:=Lib.hid hcsb
  have HOW:=Lib.hid hown
  have HLC:Hid (ra.length≤1000∧rb.length≤1000):=Lib.hid ⟨by omega,by omega⟩
  clear hra hrb ira irb hne hpu hins hbw hlen hcsa hcsb hown
  obtain⟨na,hna⟩:∃ n,ra.length=n:=⟨_,rfl⟩
  obtain⟨nb,hnb⟩:∃ n,rb.length=n:=⟨_,rfl⟩
  rw[hna]at hca HRA ⊢
  rw[hnb]at hcb HRB ⊢
  by_cases hla:0<na
  ·by_cases hlb:0<nb
   ·have t1:decide ((0:Int)<(na:Int))=true:=decide_eq_true (by omega)
    have t2:decide ((0:Int)<(nb:Int))=true:=decide_eq_true (by omega)
    have f0:(0:Int)<(na:Int):=by omega
    have f1:(0:Int)<(nb:Int):=by omega
    have f2:(1:Int)≤(na:Int):=by omega
    have f3:(1:Int)≤(nb:Int):=by omega
    obtain⟨x,ra1,rfl⟩:=List.exists_cons_of_length_pos (l:=ra) (by omega)
    obtain⟨y,rb1,rfl⟩:=List.exists_cons_of_length_pos (l:=rb) (by omega)
    have ea:=HCA.out 0 (by simp)
    have eb:=HCB.out 0 (by simp)
    simp only[Nat.mul_zero,Nat.add_zero,List.getElem_cons_zero]at ea eb
    obtain⟨xc,xv,xi⟩:=x
    obtain⟨yc,yv,yi⟩:=y
    simp only at ea eb
    obtain⟨gx,ox,cx,hx,_,_⟩:=(HIRA.out _ List.mem_cons_self).cell
    obtain⟨gy,oy,cy,hy,_,_⟩:=(HIRB.out _ List.mem_cons_self).cell
    simp only at hx hy
    subst hx
    subst hy
    have Ea:=Lib.hid ea
    have Eb:=Lib.hid eb
    have HRA0:=HRA
    have HRB0:=HRB
    have hc0:=(HBW.out.cell (World.block_lt_of_cell? w _ ea.1)).trans ea.1
    have hc1:=(HBW.out.cell (World.block_lt_of_cell? w _ ea.2)).trans ea.2
    have hc2:=(HBW.out.cell (World.block_lt_of_cell? w _ eb.1)).trans eb.1
    have hc3:=(HBW.out.cell (World.block_lt_of_cell? w _ eb.2)).trans eb.2
    have HNA:=Lib.hid hna
    have HNB:=Lib.hid hnb
    clear ea eb hna hnb
    by_cases hle:xc≤yc
    ·have t3:decide (xc≤yc)=true:=decide_eq_true hle
     go_wp2_with fail
     go_quiet (fail)
     generalize hwd:World.drewN _ _=wd
     have HBD:Hid (Below w.heap.size w wd):=Lib.hid (by rw[← hwd];exact HBW.out.trans ⟨rfl,rfl,rfl,Nat.le_refl _,fun _ _=>rfl⟩)
     have HSD:Hid (Ins wd qs'):=Lib.hid (by rw[← hwd];exact HS.out.below ⟨rfl,rfl,rfl,Nat.le_refl _,fun _ _=>rfl⟩)
     have HOD:Hid (wd.ownsRow w.heap.size 219 2 u5 qs'.length (pcells qs')):=Lib.hid (by rw[← hwd];exact HOW.out)
     have hBD:=HBD.out.size
     clear hwd hc0 hc1 hc2 hc3 HS HOW
     have HRT:Hid (Rd w 219 2 (.slice (if ca=1 then some ⟨ga,oa,none⟩ else some ⟨ga,oa+2,none⟩) (na - 1) (ca - 1)) ra1.length (pcells ra1)):=Lib.hid (by
      have h1:=HRA0.out
      rw[← HNA.out]at h1
      have h2:=h1.tail
      rw[show na - 1=ra1.length by rw[← HNA.out];rfl]
      exact h2)
     have HF:Hid (∀ wx:World,Below w.heap.size w wx→wx.cell? ⟨ga,oa,none⟩=some (.int .i64 xc)∧wx.cell? ⟨ga,oa+1,none⟩=some (.slice (some ⟨gx,ox,none⟩) xi.length cx)):=Lib.hid (fun wx hb=>⟨(hb.cell (World.block_lt_of_cell? w _ Ea.out.1)).trans Ea.out.1,(hb.cell (World.block_lt_of_cell? w _ Ea.out.2)).trans Ea.out.2⟩)
     have HB1:Hid (Below w.heap.size w (wd.alloc (.cells #[.int .i64 xc,.slice (some ⟨gx,ox,none⟩) xi.length cx] 219)).drew):=Lib.hid (HBD.out.alloc hBD _).drew
     have hbz:w.heap.size≤(wd.alloc (.cells #[.int .i64 xc,.slice (some ⟨gx,ox,none⟩) xi.length cx] 219)).drew.heap.size:=by
      show _≤(Array.push _ _).size
      simp
      omega
     have hlow:∀ r,u5.ownBlock=some r→w.heap.size≤r:=fun r e=>(HOD.out.lt r e).1
     have HQ:Hid (∀ W3:World,(wd.alloc (.cells #[.int .i64 xc,.slice (some ⟨gx,ox,none⟩) xi.length cx] 219)).drew.grownBy W3 u5.ownBlock→Below w.heap.size w W3):=Lib.hid (fun W3 hg=>HB1.out.grown hg hbz hlow)
     have HZ:=Lib.hid hbz
     clear hbz hlow
     go_wp2_with fail
     go_region_held3 (fun wx=>wx.cell? ⟨ga,oa,none⟩=some (.int .i64 xc)∧wx.cell? ⟨ga,oa+1,none⟩=some (.slice (some ⟨gx,ox,none⟩) xi.length cx)) (first|exact HF.out _ HBD.out.drew|exact HF.out _ HB1.out|exact HF.out _ (HQ.out _ hg3)) (first|(refine step_append_lies _ rfl _ _ 217 rfl w.heap.size 219 pk_ti (.agg #[.int .i64 0,.slice none 0 0]) 2 32 Tryz.underlying217 hi hz0 hz1 hz2 rfl (by decide) _ _ _ rfl (HOD.out.alloc _) ⟨wd.heap.size,0,none⟩ 1 1 [.int .i64 xc,.slice (some ⟨gx,ox,none⟩) xi.length cx] rfl rfl (news_two _ _ _ _) (two_one' _ _ _ _ _) (by decide) ?c3 ?c4 ?c5 _ rfl ?_;(case c3=>unfold maxLen;omega);(case c4=>omega);(case c5=>exact HZ.out);intro g2 cap2 W3 hown3 hg3 hat3 hlt3)|(trace_state;fail))
     have HO3:=Lib.hid hown3
     have HI3:Hid (Ins W3 (qs' ++ [⟨xc,.slice (some ⟨gx,ox,none⟩) xi.length cx,xi⟩])):=Lib.hid (by
      have h1:Ins wd (qs' ++ [⟨xc,.slice (some ⟨gx,ox,none⟩) xi.length cx,xi⟩]):=HSD.out.append fun q hq=>by
       obtain rfl:=List.mem_singleton.1 hq
       exact(HIRA.out _ List.mem_cons_self).below HBD.out
      exact(h1.below ((Below.refl _ _).alloc (Nat.le_refl _) _).drew).grown (HOD.out.alloc _) hg3)
     have HB3:=Lib.hid (HQ.out _ hg3)
     clear hown3 hg3 hat3 hlt3
     go_wp2
     go_roundw
     case rel =>
      refine⟨ra1,(⟨yc,.slice (some ⟨gy,oy,none⟩) yi.length cy,yi⟩:PV)::rb1,qs' ++ [(⟨xc,.slice (some ⟨gx,ox,none⟩) xi.length cx,xi⟩:PV)],HRT.out,(by rw[HNB.out];exact HRB0.out),fun q hq=>HIRA.out q (List.mem_cons_of_mem _ hq),HIRB.out,?zl,?zn,?zp,?zo,?zi,?zm,HB3.out⟩
      case zl=>have:=HLN.out;simp only[List.length_append,List.length_cons,List.length_nil]at this ⊢;omega
      case zn=>intro h;simp at h
      case zp=>rw[← HP.out,List.map_append,List.append_assoc];simp only[List.map_cons,List.map_nil];rw[join_left _ _ _ _ hle];rfl
      case zo=>rw[pcells_append,List.length_append];exact HO3.out
      case zi=>exact HI3.out
      case zm=>exact⟨fun q hq=>by rcases List.mem_append.1 hq with h|h;exact HMM.out.1 q h;rw[List.mem_singleton.1 h];exact List.mem_append_left _ (HMM.out.2.1 _ List.mem_cons_self),fun q hq=>HMM.out.2.1 q (List.mem_cons_of_mem _ hq),HMM.out.2.2⟩
     case measure=>simp[slen];omega
    ·have t3:decide (xc≤yc)=false:=decide_eq_false hle
     go_wp2_with fail
     go_quiet (fail)
     generalize hwd:World.drewN _ _=wd
     have HBD:Hid (Below w.heap.size w wd):=Lib.hid (by rw[← hwd];exact HBW.out.trans ⟨rfl,rfl,rfl,Nat.le_refl _,fun _ _=>rfl⟩)
     have HSD:Hid (Ins wd qs'):=Lib.hid (by rw[← hwd];exact HS.out.below ⟨rfl,rfl,rfl,Nat.le_refl _,fun _ _=>rfl⟩)
     have HOD:Hid (wd.ownsRow w.heap.size 219 2 u5 qs'.length (pcells qs')):=Lib.hid (by rw[← hwd];exact HOW.out)
     have hBD:=HBD.out.size
     clear hwd hc0 hc1 hc2 hc3 HS HOW
     have HRT:Hid (Rd w 219 2 (.slice (if cb=1 then some ⟨gb,ob,none⟩ else some ⟨gb,ob+2,none⟩) (nb - 1) (cb - 1)) rb1.length (pcells rb1)):=Lib.hid (by
      have h1:=HRB0.out
      rw[← HNB.out]at h1
      have h2:=h1.tail
      rw[show nb - 1=rb1.length by rw[← HNB.out];rfl]
      exact h2)
     have HF:Hid (∀ wx:World,Below w.heap.size w wx→wx.cell? ⟨gb,ob,none⟩=some (.int .i64 yc)∧wx.cell? ⟨gb,ob+1,none⟩=some (.slice (some ⟨gy,oy,none⟩) yi.length cy)):=Lib.hid (fun wx hb=>⟨(hb.cell (World.block_lt_of_cell? w _ Eb.out.1)).trans Eb.out.1,(hb.cell (World.block_lt_of_cell? w _ Eb.out.2)).trans Eb.out.2⟩)
     have HB1:Hid (Below w.heap.size w (wd.alloc (.cells #[.int .i64 yc,.slice (some ⟨gy,oy,none⟩) yi.length cy] 219)).drew):=Lib.hid (HBD.out.alloc hBD _).drew
     have hbz:w.heap.size≤(wd.alloc (.cells #[.int .i64 yc,.slice (some ⟨gy,oy,none⟩) yi.length cy] 219)).drew.heap.size:=by
      show _≤(Array.push _ _).size
      simp
      omega
     have hlow:∀ r,u5.ownBlock=some r→w.heap.size≤r:=fun r e=>(HOD.out.lt r e).1
     have HQ:Hid (∀ W3:World,(wd.alloc (.cells #[.int .i64 yc,.slice (some ⟨gy,oy,none⟩) yi.length cy] 219)).drew.grownBy W3 u5.ownBlock→Below w.heap.size w W3):=Lib.hid (fun W3 hg=>HB1.out.grown hg hbz hlow)
     have HZ:=Lib.hid hbz
     clear hbz hlow
     go_wp2_with fail
     go_region_held3 (fun wx=>wx.cell? ⟨gb,ob,none⟩=some (.int .i64 yc)∧wx.cell? ⟨gb,ob+1,none⟩=some (.slice (some ⟨gy,oy,none⟩) yi.length cy)) (first|exact HF.out _ HBD.out.drew|exact HF.out _ HB1.out|exact HF.out _ (HQ.out _ hg3)) (first|(refine step_append_lies _ rfl _ _ 217 rfl w.heap.size 219 pk_ti (.agg #[.int .i64 0,.slice none 0 0]) 2 32 Tryz.underlying217 hi hz0 hz1 hz2 rfl (by decide) _ _ _ rfl (HOD.out.alloc _) ⟨wd.heap.size,0,none⟩ 1 1 [.int .i64 yc,.slice (some ⟨gy,oy,none⟩) yi.length cy] rfl rfl (news_two _ _ _ _) (two_one' _ _ _ _ _) (by decide) ?c3 ?c4 ?c5 _ rfl ?_;(case c3=>unfold maxLen;omega);(case c4=>omega);(case c5=>exact HZ.out);intro g2 cap2 W3 hown3 hg3 hat3 hlt3)|(trace_state;fail))
     have HO3:=Lib.hid hown3
     have HI3:Hid (Ins W3 (qs' ++ [⟨yc,.slice (some ⟨gy,oy,none⟩) yi.length cy,yi⟩])):=Lib.hid (by
      have h1:Ins wd (qs' ++ [⟨yc,.slice (some ⟨gy,oy,none⟩) yi.length cy,yi⟩]):=HSD.out.append fun q hq=>by
       obtain rfl:=List.mem_singleton.1 hq
       exact(HIRB.out _ List.mem_cons_self).below HBD.out
      exact(h1.below ((Below.refl _ _).alloc (Nat.le_refl _) _).drew).grown (HOD.out.alloc _) hg3)
     have HB3:=Lib.hid (HQ.out _ hg3)
     clear hown3 hg3 hat3 hlt3
     go_wp2
     go_roundw
     case rel =>
      refine⟨(⟨xc,.slice (some ⟨gx,ox,none⟩) xi.length cx,xi⟩:PV)::ra1,rb1,qs' ++ [(⟨yc,.slice (some ⟨gy,oy,none⟩) yi.length cy,yi⟩:PV)],(by rw[HNA.out];exact HRA0.out),HRT.out,HIRA.out,fun q hq=>HIRB.out q (List.mem_cons_of_mem _ hq),?zl,?zn,?zp,?zo,?zi,?zm,HB3.out⟩
      case zl=>have:=HLN.out;simp only[List.length_append,List.length_cons,List.length_nil]at this ⊢;omega
      case zn=>intro h;simp at h
      case zp=>rw[← HP.out,List.map_append,List.append_assoc];simp only[List.map_cons,List.map_nil];rw[join_right _ _ _ _ (Int.not_le.2 hle)];rfl
      case zo=>rw[pcells_append,List.length_append];exact HO3.out
      case zi=>exact HI3.out
      case zm=>exact⟨fun q hq=>by rcases List.mem_append.1 hq with h|h;exact HMM.out.1 q h;rw[List.mem_singleton.1 h];exact List.mem_append_right _ (HMM.out.2.2 _ List.mem_cons_self),HMM.out.2.1,fun q hq=>HMM.out.2.2 q (List.mem_cons_of_mem _ hq)⟩
     case measure=>simp[slen];omega
   ·have t1:decide ((0:Int)<(na:Int))=true:=decide_eq_true (by omega)
    have t2:decide ((0:Int)<(nb:Int))=false:=decide_eq_false (by omega)
    obtain⟨A5,c5,rfl⟩:=own_slice' HOW.out
    have hpos:0<qs'.length:=by
     rcases Nat.eq_zero_or_pos qs'.length with h|h
     ·have h2:=HNE.out (List.eq_nil_of_length_eq_zero h)
      omega
     ·exact h
    have HCT:=Lib.hid (concat_three _ (.slice (some ⟨ga,oa,none⟩) na ca) (.slice (some ⟨gb,ob,none⟩) nb cb) qs' ra rb wr (Rd.own HOW.out (own_some HOW.out hpos)) (by rw[hna];exact HRA.out.below HBW.out) (by rw[hnb];exact HRB.out.below HBW.out) HS.out (HIRA.out.below HBW.out) (HIRB.out.below HBW.out) hpos (by have:=HLN.out;omega))
    have HE:Hid ((qs'++ra++rb).map PV.pure=A0):=Lib.hid (by
     rw[← HP.out,List.map_append,List.map_append,List.append_assoc]
     congr 1
     have h0:ra= []∨rb= []:=by
      rcases Nat.eq_zero_or_pos na with h|h
      ·exact .inl (List.eq_nil_of_length_eq_zero (by omega))
      ·exact .inr (List.eq_nil_of_length_eq_zero (by omega))
     rcases h0 with rfl|rfl
     ·rw[List.map_nil,join_nil_left];rfl
     ·rw[List.map_nil,join_nil_right,List.append_nil])
    have HMX:Hid (∀ q∈qs'++ra++rb,q∈qa++qb):=Lib.hid (fun q hq=>by rcases List.mem_append.1 hq with h|h;rcases List.mem_append.1 h with h|h;exact HMM.out.1 q h;exact List.mem_append_left _ (HMM.out.2.1 _ h);exact List.mem_append_right _ (HMM.out.2.2 _ h))
    clear hpos
    go_wp2_with (go_at_call 161;refine HCT.out.mono ?_;rintro e w3 ⟨v3,rfl,ho3,hi3,hb3⟩;have HO3:=Lib.hid ho3;have HI3:=Lib.hid hi3;have HB3:=Lib.hid hb3;clear ho3 hi3 hb3)
    go_ret
    exact⟨_,_,rfl,own_lower HO3.out hB1,HI3.out,HE.out,HMX.out,HBW.out.trans (HB3.out.mono hB1)⟩
  ·have t1:decide ((0:Int)<(na:Int))=false:=decide_eq_false (by omega)
   obtain⟨A5,c5,rfl⟩:=own_slice' HOW.out
   have hpos:0<qs'.length:=by
    rcases Nat.eq_zero_or_pos qs'.length with h|h
    ·have h2:=HNE.out (List.eq_nil_of_length_eq_zero h)
     omega
    ·exact h
   have HCT:=Lib.hid (concat_three _ (.slice (some ⟨ga,oa,none⟩) na ca) (.slice (some ⟨gb,ob,none⟩) nb cb) qs' ra rb wr (Rd.own HOW.out (own_some HOW.out hpos)) (by rw[hna];exact HRA.out.below HBW.out) (by rw[hnb];exact HRB.out.below HBW.out) HS.out (HIRA.out.below HBW.out) (HIRB.out.below HBW.out) hpos (by have:=HLN.out;omega))
   have HE:Hid ((qs'++ra++rb).map PV.pure=A0):=Lib.hid (by
    rw[← HP.out,List.map_append,List.map_append,List.append_assoc]
    congr 1
    have h0:ra= []∨rb= []:=by
     rcases Nat.eq_zero_or_pos na with h|h
     ·exact .inl (List.eq_nil_of_length_eq_zero (by omega))
     ·exact .inr (List.eq_nil_of_length_eq_zero (by omega))
    rcases h0 with rfl|rfl
    ·rw[List.map_nil,join_nil_left];rfl
    ·rw[List.map_nil,join_nil_right,List.append_nil])
   have HMX:Hid (∀ q∈qs'++ra++rb,q∈qa++qb):=Lib.hid (fun q hq=>by rcases List.mem_append.1 hq with h|h;rcases List.mem_append.1 h with h|h;exact HMM.out.1 q h;exact List.mem_append_left _ (HMM.out.2.1 _ h);exact List.mem_append_right _ (HMM.out.2.2 _ h))
   clear hpos
   go_wp2_with (go_at_call 161;refine HCT.out.mono ?_;rintro e w3 ⟨v3,rfl,ho3,hi3,hb3⟩;have HO3:=Lib.hid ho3;have HI3:=Lib.hid hi3;have HB3:=Lib.hid hb3;clear ho3 hi3 hb3)
   go_ret
   exact⟨_,_,rfl,own_lower HO3.out hB1,HI3.out,HE.out,HMX.out,HBW.out.trans (HB3.out.mono hB1)⟩
end Go.Proofs.YtgiogemkomgkhaaGreatDoor.Mg
