/-
  Slices that are read: where their cells lie, and of which type the block is.
-/
import Derived.Test.YtgiogemkomgkhaaGreatDoorKMgBase
import Derived.OwnWalk
import Derived.Deep.AppendLies
import Derived.Test.YtgiogemkomgkhaaGreatDoorKShelf
import Derived.Shelf.Spec.SlicesGrow
set_option linter.unusedVariables false
set_option linter.unusedSimpArgs false
namespace Go.Proofs.YtgiogemkomgkhaaGreatDoor.Mg
open Go.ChangeShapes Go.WideShapes Go.ChangeAt Go.RowKit Go.Shelf Go.Proofs
structure Rd (w:World) (T:TypeId) (size:Nat) (v:Value) (n:Nat) (xs:List Value):Prop where
 len:xs.length=n*size
 at':∃ g o c cur fr,v= .slice (some ⟨g,o,none⟩) n c∧n≤c∧w.heap[g]?=some (.cells cur T fr)∧∀ j (h:j<xs.length),cur[o+j]?=some xs[j]
theorem Rd.below {w w':World} {T:TypeId} {size n:Nat} {v:Value} {xs:List Value} (h:Rd w T size v n xs) (hb:Below w.heap.size w w'):Rd w' T size v n xs:=by
 obtain⟨h1,g,o,c,cur,fr,h2,h3,h4,h5⟩:=h
 exact⟨h1,g,o,c,cur,fr,h2,h3,(hb.block g (Array.getElem?_eq_some_iff.1 h4).1).trans h4,h5⟩
theorem Rd.grown {w w':World} {T T2:TypeId} {size n:Nat} {v:Value} {xs:List Value} {row:Option Nat} (h:Rd w T size v n xs) (hg:w.grownBy w' row) (hr:∀ r,row=some r→∃ cur fr,w.heap[r]?=some (.cells cur T2 fr)) (hne:T≠T2):Rd w' T size v n xs:=by
 obtain⟨h1,g,o,c,cur,fr,h2,h3,h4,h5⟩:=h
 refine⟨h1,g,o,c,cur,fr,h2,h3,(hg.block g (Array.getElem?_eq_some_iff.1 h4).1 (fun e=>?_)).trans h4,h5⟩
 obtain⟨cur2,fr2,h6⟩:=hr g e.symm
 rw[h4]at h6
 simp only[Option.some.injEq,Obj.cells.injEq]at h6
 exact hne h6.2.1
theorem Rd.own {w:World} {base:Nat} {T:TypeId} {size n:Nat} {v:Value} {xs:List Value} (h:w.ownsRow base T size v n xs) (hn:v≠ .slice none 0 0):Rd w T size v n xs:=by
 obtain⟨h1,⟨rfl,_⟩|⟨g,cap,cur,rfl,hg,hh,hnc,hcm,hsz,htk⟩⟩:=h
 ·exact absurd rfl hn
 refine⟨h1,g,0,cap,cur,(0,0),rfl,hnc,hh,fun j hj=>?_⟩
 have h2:(cur.toList.take (n*size))[j]?=some xs[j]:=by rw[htk,List.getElem?_eq_getElem hj]
 rw[List.getElem?_take,if_pos (by omega)]at h2
 simpa using h2
theorem Rd.cell {w:World} {T:TypeId} {size n:Nat} {v:Value} {xs:List Value} (h:Rd w T size v n xs):∃ g o c,v= .slice (some ⟨g,o,none⟩) n c∧n≤c∧∀ j (h:j<xs.length),w.cell? ⟨g,o+j,none⟩=some xs[j]:=by
 obtain⟨h1,g,o,c,cur,fr,h2,h3,h4,h5⟩:=h
 refine⟨g,o,c,h2,h3,fun j hj=>?_⟩
 simp only[World.cell?]
 rw[h4]
 simp[h5 j hj]
end Go.Proofs.YtgiogemkomgkhaaGreatDoor.Mg
namespace Go.Proofs.YtgiogemkomgkhaaGreatDoor.Mg
open Go.Shelf Go.Proofs
def growP_ren:Go.Shelf.Ren:=⟨fun|4=>167|n=>n,fun|22=>217|25=>219|3=>3|4=>4|9=>9|20=>20|0=>0|n=>n,fun|n=>n⟩
theorem growP:Go.Proofs.Lays8.n4 Tryz.prog growP_ren:= {
 mixed:=by kernel_rfl
 f4:=⟨Tryz.f167.name,by decide,Tryz.func167.trans (congrArg some (by kernel_rfl))⟩
 t0:=Tryz.underlying0
 a0:=Tryz.isAgg0
 z0:=Tryz.sizeOf0
 v0:=Tryz.zeroValue0
 t3:=Tryz.underlying3
 a3:=Tryz.isAgg3
 z3:=Tryz.sizeOf3
 v3:=Tryz.zeroValue3
 t4:=Tryz.underlying4
 a4:=Tryz.isAgg4
 z4:=Tryz.sizeOf4
 v4:=Tryz.zeroValue4
 t9:=Tryz.underlying9
 a9:=Tryz.isAgg9
 z9:=Tryz.sizeOf9
 v9:=Tryz.zeroValue9
 t20:=Tryz.underlying20
 a20:=Tryz.isAgg20
 z20:=Tryz.sizeOf20
 v20:=Tryz.zeroValue20
 t22:=Tryz.underlying217
 a22:=Tryz.isAgg217
 z22:=Tryz.sizeOf217
 v22:=Tryz.zeroValue217 }
def growI_ren:Go.Shelf.Ren:=⟨fun|4=>148|n=>n,fun|22=>55|25=>3|3=>3|4=>4|9=>9|20=>20|0=>0|n=>n,fun|n=>n⟩
theorem growI:Go.Proofs.Lays8.n4 Tryz.prog growI_ren:= {
 mixed:=by kernel_rfl
 f4:=⟨Tryz.f148.name,by decide,Tryz.func148.trans (congrArg some (by kernel_rfl))⟩
 t0:=Tryz.underlying0
 a0:=Tryz.isAgg0
 z0:=Tryz.sizeOf0
 v0:=Tryz.zeroValue0
 t3:=Tryz.underlying3
 a3:=Tryz.isAgg3
 z3:=Tryz.sizeOf3
 v3:=Tryz.zeroValue3
 t4:=Tryz.underlying4
 a4:=Tryz.isAgg4
 z4:=Tryz.sizeOf4
 v4:=Tryz.zeroValue4
 t9:=Tryz.underlying9
 a9:=Tryz.isAgg9
 z9:=Tryz.sizeOf9
 v9:=Tryz.zeroValue9
 t20:=Tryz.underlying20
 a20:=Tryz.isAgg20
 z20:=Tryz.sizeOf20
 v20:=Tryz.zeroValue20
 t22:=Tryz.underlying55
 a22:=Tryz.isAgg55
 z22:=Tryz.sizeOf55
 v22:=Tryz.zeroValue55 }
end Go.Proofs.YtgiogemkomgkhaaGreatDoor.Mg
namespace Go.Proofs.YtgiogemkomgkhaaGreatDoor.Mg
open Go.ChangeShapes Go.WideShapes Go.ChangeAt Go.RowKit Go.Shelf Go.Proofs
noncomputable def ci_ti:TypeInfo:=(Tryz.prog.info? 3).get (by kernel_rfl)
theorem ci_grow (n:Nat) (w:World) (hn:0<n) (hb:n≤1000000) :
  Calls Tryz.prog 148 #[.slice none 0 0,.int .i64 n] w fun e w'=>∃ v,e= .returned v∧w'.ownsRow w.heap.size 3 1 v 0 []∧Below w.heap.size w w':=by
 have h:=Any8.slices_Grow_grow growI ci_ti (.int .i64 0) (by kernel_rfl) (by kernel_rfl) (by rw[show ci_ti.size=1 from by kernel_rfl];decide) none 0 0 n [] w (by omega) (by omega) (by simp only[show ci_ti.bytes=8 from by kernel_rfl];omega) (by omega) (by simp) (fun _=>rfl) (fun a h=>by cases h)
 refine h.mono ?_
 rintro e w' ⟨rfl,rfl⟩
 have h1:=grownCap_ge w (0+n) 0 3
 have h2:=grownCap_le_maxLen w (0+n) 0 3 (by unfold maxLen;omega)
 refine⟨_,rfl,⟨by simp,.inr ⟨w.heap.size,_,_,rfl,Nat.le_refl _,heap_new w.drew _,by omega,h2,?_,by simp⟩⟩,⟨rfl,rfl,rfl,by simp,fun k hk=>?_⟩⟩
 ·simp only[Array.size_append,size_zeroCells]
  show 0+(0+n - 0)*1+(grownCap w (0+n) 0 3 - (0+n))*1=grownCap w (0+n) 0 3*1
  omega
 ·exact(World.grownBy_alloc w.drew _ none).block k hk (by simp)
abbrev ci_Part:=Value×Nat×List Value
def ci_sum (ps:List ci_Part) (k:Nat):Nat:=((ps.take k).map fun p=>p.2.1).sum
def ci_cat (ps:List ci_Part) (k:Nat):List Value:=((ps.take k).map fun p=>p.2.2).flatten
theorem ci_sum_succ (ps:List ci_Part) (k:Nat) (h:k<ps.length):ci_sum ps (k+1)=ci_sum ps k+ps[k].2.1:=by
 unfold ci_sum
 rw[List.take_succ_eq_append_getElem h,List.map_append,List.sum_append]
 simp
theorem ci_cat_succ (ps:List ci_Part) (k:Nat) (h:k<ps.length):ci_cat ps (k+1)=ci_cat ps k++ps[k].2.2:=by
 unfold ci_cat
 rw[List.take_succ_eq_append_getElem h,List.map_append,List.flatten_append]
 simp
theorem ci_sum_mono (ps:List ci_Part) (k:Nat) (h:k≤ps.length):ci_sum ps k≤ci_sum ps ps.length:=by
 obtain⟨d,hd⟩:∃ d,ps.length=k+d:=⟨ps.length - k,by omega⟩
 rw[hd]
 clear h
 induction d generalizing k with
 | zero=>exact Nat.le_refl _
 | succ d ih =>
  have h1:=ih (k+1) (by omega)
  have h2:=ci_sum_succ ps k (by omega)
  have:k+1+d=k+(d+1):=by omega
  rw[this]at h1
  omega
set_option maxHeartbeats 2000000 in
set_option maxRecDepth 100000 in
theorem ci_calls (g0 c0:Nat) (ps:List ci_Part) (w:World) (hc:∀ j (h:j<ps.length),w.cell? ⟨g0,j,none⟩=some ps[j].1) (hr:∀ j (h:j<ps.length),Rd w 3 1 ps[j].1 ps[j].2.1 ps[j].2.2)
  (h1:∀ j (h:j<ps.length),∀ u∈ps[j].2.2,u.oneCell'=true) (hpos:0<ci_sum ps ps.length) (hb:ci_sum ps ps.length≤1000000) (hl:ps.length≤1000) :
  Calls Tryz.prog 121 #[.slice (some ⟨g0,0,none⟩) ps.length c0] w fun e w'=>∃ v,e= .returned v∧w'.ownsRow w.heap.size 3 1 v (ci_sum ps ps.length) (ci_cat ps ps.length)∧Below w.heap.size w w':=by
 have hi:Tryz.prog.info? 3=some ci_ti:=by kernel_rfl
 have hz0:ci_ti.zero=some (.int .i64 0):=by kernel_rfl
 have hz1:ci_ti.size=1:=by kernel_rfl
 have hz2:ci_ti.bytes=8:=by kernel_rfl
 have HC:=Lib.hid hc
 have HR:=Lib.hid hr
 have H1:=Lib.hid h1
 have HM:=Lib.hid (ci_sum_mono ps)
 clear hc hr h1
 go_enter Tryz.func121,Tryz.ntmps121
 go_wp2
 go_loop [3,11] (fun s i=>∃ k:Nat,k≤ps.length∧s= .int .i64 (ci_sum ps k)∧i= .int .i64 k) (fun _ i=>ps.length - (intOf i).toNat)
 case atStart=>exact⟨0,Nat.zero_le _,rfl,rfl⟩
 case round =>
  obtain⟨k,hk,rfl,rfl⟩:=hrel
  have hsk:=HM.out k hk
  by_cases hlt:k<ps.length
  ·have q1:decide ((k:Int)<(ps.length:Int))=true:=decide_eq_true (by omega)
   have hcell:=HC.out k hlt
   have hs2:=ci_sum_succ ps k hlt
   have hs3:=HM.out (k+1) hlt
   obtain⟨_,g,o,c,cur,fr,hv,_⟩:=HR.out k hlt
   rw[hv]at hcell
   obtain⟨n,hn⟩:∃ n,ps[k].2.1=n:=⟨_,rfl⟩
   rw[hn]at hcell hs2
   obtain⟨s,hs⟩:∃ s,ci_sum ps k=s:=⟨_,rfl⟩
   rw[hs]at hs2 ⊢
   rw[hs2]at hs3
   have q2:decide ((s:Int)+(n:Int)<0)=false:=decide_eq_false (by omega)
   have HS2:=Lib.hid hs2
   clear hn hv hs hs2
   go_wp2
   go_round
   case rel=>exact⟨k+1,by omega,by rw[HS2.out];go_num,by go_num⟩
   case measure=>simp[intOf];omega
  ·obtain rfl:k=ps.length:=by omega
   have q1:decide ((ps.length:Int)<(ps.length:Int))=false:=decide_eq_false (by omega)
   go_wp2_with (go_at_call 148;refine(ci_grow _ _ hpos hb).mono ?_;rintro e w2 ⟨v,rfl,hown,hbw⟩;have HO:=Lib.hid hown;have HB:=Lib.hid hbw;clear hown hbw)
   go_loopw [6,27] (fun v i wr=>∃ k:Nat,k≤ps.length∧i= .int .i64 k∧wr.ownsRow w.heap.size 3 1 v (ci_sum ps k) (ci_cat ps k)∧Below w.heap.size w wr) (fun _ i _=>ps.length - (intOf i).toNat)
   case atStart=>exact⟨0,Nat.zero_le _,rfl,HO.out,HB.out⟩
   case round =>
    obtain⟨k,hk2,rfl,hown,hbw⟩:=hrel
    have HB2:=Lib.hid hbw
    have hB1:=hbw.size
    have hsk2:=HM.out k hk2
    clear hbw
    by_cases hlt2:k<ps.length
    ·have q2:decide ((k:Int)<(ps.length:Int))=true:=decide_eq_true (by omega)
     have hcell:=(HB2.out.cell (World.block_lt_of_cell? w _ (HC.out k hlt2))).trans (HC.out k hlt2)
     have hs2:=ci_sum_succ ps k hlt2
     have hs3:=HM.out (k+1) hlt2
     have hct:=Lib.hid (ci_cat_succ ps k hlt2)
     have hrd:=(HR.out k hlt2).below HB2.out
     have hlen:=hrd.len
     obtain⟨g,o,c,hv,_,hcs⟩:=hrd.cell
     rw[hv]at hcell
     have h1x:=H1.out k hlt2
     obtain⟨n,hn⟩:∃ n,ps[k].2.1=n:=⟨_,rfl⟩
     rw[hn]at hcell hs2 hlen
     obtain⟨xs,hxs⟩:∃ xs,ps[k].2.2=xs:=⟨_,rfl⟩
     rw[hxs]at hct hcs h1x hlen
     obtain⟨s,hs⟩:∃ s,ci_sum ps k=s:=⟨_,rfl⟩
     rw[hs]at hs2 hown hsk2
     rw[hs2]at hs3
     have HS2:=Lib.hid hs2
     have HCS:=Lib.hid hcs
     have H1X:=Lib.hid h1x
     have HV:=Lib.hid hv
     clear hn hv hs hs2 hxs hcs h1x hrd
     go_wp2_with (at_builtin;refine wpList_append_own _ rfl _ _ 55 rfl w.heap.size 3 ci_ti (.int .i64 0) 1 8 Tryz.underlying55 hi hz0 hz1 hz2 rfl (by decide) _ _ _ rfl hown ⟨g,o,none⟩ n c xs rfl hlen ?c1 H1X.out ?c3 ?c4 hB1 ?_)
     case c1 =>
      intro j u hj
      obtain⟨hj1,rfl⟩:=List.getElem?_eq_some_iff.1 hj
      have hadd:(⟨g,o,none⟩:Addr).add j=⟨g,o+j,none⟩:=by unfold Addr.add;split<;>simp_all
      rw[hadd]
      exact HCS.out j hj1
     case c3=>unfold maxLen;omega
     case c4=>omega
     intro v' w3 hown1 hg1 _
     have HO2:Hid (w3.ownsRow w.heap.size 3 1 v' (ci_sum ps (k+1)) (ci_cat ps (k+1))):=Lib.hid (by rw[HS2.out,hct.out];exact hown1)
     have HB3:Hid (Below w.heap.size w w3):=Lib.hid (HB2.out.grown hg1 hB1 (fun r e=>(hown.lt r e).1))
     clear hown hown1 hg1
     go_wp2
     go_roundw
     case rel=>exact⟨k+1,by omega,by go_num,HO2.out,HB3.out⟩
     case measure=>simp[intOf];omega
    ·obtain rfl:k=ps.length:=by omega
     have q2:decide ((ps.length:Int)<(ps.length:Int))=false:=decide_eq_false (by omega)
     have HO2:=Lib.hid hown
     clear hown
     go_wp2
     go_ret
     exact⟨_,rfl,HO2.out,HB2.out⟩
end Go.Proofs.YtgiogemkomgkhaaGreatDoor.Mg
namespace Go.Proofs.YtgiogemkomgkhaaGreatDoor.Mg
open Go.ChangeShapes Go.WideShapes Go.ChangeAt Go.RowKit Go.Shelf Go.Proofs
noncomputable def cp_ti:TypeInfo:=(Tryz.prog.info? 219).get (by kernel_rfl)
theorem cp_grow (n:Nat) (w:World) (hn:0<n) (hb:n≤1000000) :
  Calls Tryz.prog 167 #[.slice none 0 0,.int .i64 n] w fun e w'=>∃ v,e= .returned v∧w'.ownsRow w.heap.size 219 2 v 0 []∧Below w.heap.size w w':=by
 have h:=Any8.slices_Grow_grow growP cp_ti (.agg #[.int .i64 0,.slice none 0 0]) (by kernel_rfl) (by kernel_rfl) (by rw[show cp_ti.size=2 from by kernel_rfl];decide) none 0 0 n [] w (by omega) (by omega) (by simp only[show cp_ti.bytes=32 from by kernel_rfl];omega) (by omega) (by simp) (fun _=>rfl) (fun a h=>by cases h)
 refine h.mono ?_
 rintro e w' ⟨rfl,rfl⟩
 have h1:=grownCap_ge w (0+n) 0 219
 have h2:=grownCap_le_maxLen w (0+n) 0 219 (by unfold maxLen;omega)
 refine⟨_,rfl,⟨by simp,.inr ⟨w.heap.size,_,_,rfl,Nat.le_refl _,heap_new w.drew _,by omega,h2,?_,by simp⟩⟩,⟨rfl,rfl,rfl,by simp,fun k hk=>?_⟩⟩
 ·simp only[Array.size_append,size_zeroCells]
  show 0+(0+n - 0)*2+(grownCap w (0+n) 0 219 - (0+n))*2=grownCap w (0+n) 0 219*2
  omega
 ·exact(World.grownBy_alloc w.drew _ none).block k hk (by simp)
abbrev cp_Part:=Value×Nat×List Value
def cp_sum (ps:List cp_Part) (k:Nat):Nat:=((ps.take k).map fun p=>p.2.1).sum
def cp_cat (ps:List cp_Part) (k:Nat):List Value:=((ps.take k).map fun p=>p.2.2).flatten
theorem cp_sum_succ (ps:List cp_Part) (k:Nat) (h:k<ps.length):cp_sum ps (k+1)=cp_sum ps k+ps[k].2.1:=by
 unfold cp_sum
 rw[List.take_succ_eq_append_getElem h,List.map_append,List.sum_append]
 simp
theorem cp_cat_succ (ps:List cp_Part) (k:Nat) (h:k<ps.length):cp_cat ps (k+1)=cp_cat ps k++ps[k].2.2:=by
 unfold cp_cat
 rw[List.take_succ_eq_append_getElem h,List.map_append,List.flatten_append]
 simp
theorem cp_sum_mono (ps:List cp_Part) (k:Nat) (h:k≤ps.length):cp_sum ps k≤cp_sum ps ps.length:=by
 obtain⟨d,hd⟩:∃ d,ps.length=k+d:=⟨ps.length - k,by omega⟩
 rw[hd]
 clear h
 induction d generalizing k with
 | zero=>exact Nat.le_refl _
 | succ d ih =>
  have h1:=ih (k+1) (by omega)
  have h2:=cp_sum_succ ps k (by omega)
  have:k+1+d=k+(d+1):=by omega
  rw[this]at h1
  omega
set_option maxHeartbeats 2000000 in
set_option maxRecDepth 100000 in
theorem cp_calls (g0 c0:Nat) (ps:List cp_Part) (w:World) (hc:∀ j (h:j<ps.length),w.cell? ⟨g0,j,none⟩=some ps[j].1) (hr:∀ j (h:j<ps.length),Rd w 219 2 ps[j].1 ps[j].2.1 ps[j].2.2)
  (h1:∀ j (h:j<ps.length),∀ u∈ps[j].2.2,u.oneCell'=true) (hpos:0<cp_sum ps ps.length) (hb:cp_sum ps ps.length≤1000000) (hl:ps.length≤1000) :
  Calls Tryz.prog 161 #[.slice (some ⟨g0,0,none⟩) ps.length c0] w fun e w'=>∃ v,e= .returned v∧w'.ownsRow w.heap.size 219 2 v (cp_sum ps ps.length) (cp_cat ps ps.length)∧Below w.heap.size w w':=by
 have hi:Tryz.prog.info? 219=some cp_ti:=by kernel_rfl
 have hz0:cp_ti.zero=some (.agg #[.int .i64 0,.slice none 0 0]):=by kernel_rfl
 have hz1:cp_ti.size=2:=by kernel_rfl
 have hz2:cp_ti.bytes=32:=by kernel_rfl
 have HC:=Lib.hid hc
 have HR:=Lib.hid hr
 have H1:=Lib.hid h1
 have HM:=Lib.hid (cp_sum_mono ps)
 clear hc hr h1
 go_enter Tryz.func161,Tryz.ntmps161
 go_wp2
 go_loop [3,11] (fun s i=>∃ k:Nat,k≤ps.length∧s= .int .i64 (cp_sum ps k)∧i= .int .i64 k) (fun _ i=>ps.length - (intOf i).toNat)
 case atStart=>exact⟨0,Nat.zero_le _,rfl,rfl⟩
 case round =>
  obtain⟨k,hk,rfl,rfl⟩:=hrel
  have hsk:=HM.out k hk
  by_cases hlt:k<ps.length
  ·have q1:decide ((k:Int)<(ps.length:Int))=true:=decide_eq_true (by omega)
   have hcell:=HC.out k hlt
   have hs2:=cp_sum_succ ps k hlt
   have hs3:=HM.out (k+1) hlt
   obtain⟨_,g,o,c,cur,fr,hv,_⟩:=HR.out k hlt
   rw[hv]at hcell
   obtain⟨n,hn⟩:∃ n,ps[k].2.1=n:=⟨_,rfl⟩
   rw[hn]at hcell hs2
   obtain⟨s,hs⟩:∃ s,cp_sum ps k=s:=⟨_,rfl⟩
   rw[hs]at hs2 ⊢
   rw[hs2]at hs3
   have q2:decide ((s:Int)+(n:Int)<0)=false:=decide_eq_false (by omega)
   have HS2:=Lib.hid hs2
   clear hn hv hs hs2
   go_wp2
   go_round
   case rel=>exact⟨k+1,by omega,by rw[HS2.out];go_num,by go_num⟩
   case measure=>simp[intOf];omega
  ·obtain rfl:k=ps.length:=by omega
   have q1:decide ((ps.length:Int)<(ps.length:Int))=false:=decide_eq_false (by omega)
   go_wp2_with (go_at_call 167;refine(cp_grow _ _ hpos hb).mono ?_;rintro e w2 ⟨v,rfl,hown,hbw⟩;have HO:=Lib.hid hown;have HB:=Lib.hid hbw;clear hown hbw)
   go_loopw [6,27] (fun v i wr=>∃ k:Nat,k≤ps.length∧i= .int .i64 k∧wr.ownsRow w.heap.size 219 2 v (cp_sum ps k) (cp_cat ps k)∧Below w.heap.size w wr) (fun _ i _=>ps.length - (intOf i).toNat)
   case atStart=>exact⟨0,Nat.zero_le _,rfl,HO.out,HB.out⟩
   case round =>
    obtain⟨k,hk2,rfl,hown,hbw⟩:=hrel
    have HB2:=Lib.hid hbw
    have hB1:=hbw.size
    have hsk2:=HM.out k hk2
    clear hbw
    by_cases hlt2:k<ps.length
    ·have q2:decide ((k:Int)<(ps.length:Int))=true:=decide_eq_true (by omega)
     have hcell:=(HB2.out.cell (World.block_lt_of_cell? w _ (HC.out k hlt2))).trans (HC.out k hlt2)
     have hs2:=cp_sum_succ ps k hlt2
     have hs3:=HM.out (k+1) hlt2
     have hct:=Lib.hid (cp_cat_succ ps k hlt2)
     have hrd:=(HR.out k hlt2).below HB2.out
     have hlen:=hrd.len
     obtain⟨g,o,c,hv,_,hcs⟩:=hrd.cell
     rw[hv]at hcell
     have h1x:=H1.out k hlt2
     obtain⟨n,hn⟩:∃ n,ps[k].2.1=n:=⟨_,rfl⟩
     rw[hn]at hcell hs2 hlen
     obtain⟨xs,hxs⟩:∃ xs,ps[k].2.2=xs:=⟨_,rfl⟩
     rw[hxs]at hct hcs h1x hlen
     obtain⟨s,hs⟩:∃ s,cp_sum ps k=s:=⟨_,rfl⟩
     rw[hs]at hs2 hown hsk2
     rw[hs2]at hs3
     have HS2:=Lib.hid hs2
     have HCS:=Lib.hid hcs
     have H1X:=Lib.hid h1x
     have HV:=Lib.hid hv
     clear hn hv hs hs2 hxs hcs h1x hrd
     go_wp2_with (at_builtin;refine wpList_append_own _ rfl _ _ 217 rfl w.heap.size 219 cp_ti (.agg #[.int .i64 0,.slice none 0 0]) 2 32 Tryz.underlying217 hi hz0 hz1 hz2 rfl (by decide) _ _ _ rfl hown ⟨g,o,none⟩ n c xs rfl hlen ?c1 H1X.out ?c3 ?c4 hB1 ?_)
     case c1 =>
      intro j u hj
      obtain⟨hj1,rfl⟩:=List.getElem?_eq_some_iff.1 hj
      have hadd:(⟨g,o,none⟩:Addr).add j=⟨g,o+j,none⟩:=by unfold Addr.add;split<;>simp_all
      rw[hadd]
      exact HCS.out j hj1
     case c3=>unfold maxLen;omega
     case c4=>omega
     intro v' w3 hown1 hg1 _
     have HO2:Hid (w3.ownsRow w.heap.size 219 2 v' (cp_sum ps (k+1)) (cp_cat ps (k+1))):=Lib.hid (by rw[HS2.out,hct.out];exact hown1)
     have HB3:Hid (Below w.heap.size w w3):=Lib.hid (HB2.out.grown hg1 hB1 (fun r e=>(hown.lt r e).1))
     clear hown hown1 hg1
     go_wp2
     go_roundw
     case rel=>exact⟨k+1,by omega,by go_num,HO2.out,HB3.out⟩
     case measure=>simp[intOf];omega
    ·obtain rfl:k=ps.length:=by omega
     have q2:decide ((ps.length:Int)<(ps.length:Int))=false:=decide_eq_false (by omega)
     have HO2:=Lib.hid hown
     clear hown
     go_wp2
     go_ret
     exact⟨_,rfl,HO2.out,HB2.out⟩
end Go.Proofs.YtgiogemkomgkhaaGreatDoor.Mg
namespace Go.Proofs.YtgiogemkomgkhaaGreatDoor.Mg
open Go.ChangeShapes Go.WideShapes Go.ChangeAt Go.RowKit Go.Shelf Go.Proofs
structure PV where
 cost:Int
 sv:Value
 ins:List Nat
def PV.pure (q:PV):Int×List Nat:=(q.cost,q.ins)
def nv (k:Nat):Value:= .int .i64 k
def pcells (qs:List PV):List Value:=qs.flatMap fun q=> [.int .i64 q.cost,q.sv]
theorem pcells_cons (q:PV) (qs:List PV):pcells (q::qs)= .int .i64 q.cost::q.sv::pcells qs:=rfl
theorem pcells_append (a b:List PV):pcells (a++b)=pcells a++pcells b:=by
 unfold pcells;rw[List.flatMap_append]
theorem pcells_len:∀ qs:List PV,(pcells qs).length=qs.length*2
 | []=>rfl
 | q::qs=>by rw[pcells_cons];simp only[List.length_cons,pcells_len qs];omega
theorem pcells_cost:∀ (qs:List PV) (k:Nat) (h:k<qs.length),(pcells qs)[2*k]?=some (.int .i64 qs[k].cost)
 | q::qs,0,_=>rfl
 | q::qs,k+1,h=>by
  rw[pcells_cons,show 2*(k+1)=2*k+1+1 by omega,List.getElem?_cons_succ,List.getElem?_cons_succ,pcells_cost qs k (by simpa using h)]
  rfl
theorem pcells_sv:∀ (qs:List PV) (k:Nat) (h:k<qs.length),(pcells qs)[2*k+1]?=some qs[k].sv
 | q::qs,0,_=>rfl
 | q::qs,k+1,h=>by
  rw[pcells_cons,show 2*(k+1)+1=(2*k+1)+1+1 by omega,List.getElem?_cons_succ,List.getElem?_cons_succ,pcells_sv qs k (by simpa using h)]
  rfl
def Ins (w:World) (qs:List PV):Prop:=∀ q∈qs,Rd w 3 1 q.sv q.ins.length (q.ins.map nv)
theorem Ins.below {w w':World} {qs:List PV} (h:Ins w qs) (hb:Below w.heap.size w w'):Ins w' qs:=fun q hq=>(h q hq).below hb
theorem Ins.append {w:World} {a b:List PV} (h1:Ins w a) (h2:Ins w b):Ins w (a++b):=fun q hq=>by
 rcases List.mem_append.1 hq with h|h
 ·exact h1 q h
 ·exact h2 q h
def Low (b:Nat) (qs:List PV):Prop:=∀ q∈qs,∃ g o n c,q.sv= .slice (some ⟨g,o,none⟩) n c∧b≤g
theorem nv_one (ks:List Nat):∀ u∈ks.map nv,u.oneCell'=true:=by
 intro u hu
 obtain⟨k,_,rfl⟩:=List.mem_map.1 hu
 rfl
theorem Rd.pack {w:World} {v:Value} {qs:List PV} (h:Rd w 219 2 v qs.length (pcells qs)):∃ g o c,v= .slice (some ⟨g,o,none⟩) qs.length c∧qs.length≤c∧∀ k (h:k<qs.length),w.cell? ⟨g,o+2*k,none⟩=some (.int .i64 qs[k].cost)∧w.cell? ⟨g,o+2*k+1,none⟩=some qs[k].sv:=by
 obtain⟨g,o,c,h1,h2,h3⟩:=h.cell
 refine⟨g,o,c,h1,h2,fun k hk=>?_⟩
 have hl:=pcells_len qs
 have e1:=h3 (2*k) (by omega)
 have e2:=h3 (2*k+1) (by omega)
 rw[show o+(2*k+1)=o+2*k+1 by omega]at e2
 refine⟨e1.trans ?_,e2.trans ?_⟩
 ·rw[← List.getElem?_eq_getElem];exact pcells_cost qs k hk
 ·rw[← List.getElem?_eq_getElem];exact pcells_sv qs k hk
theorem own_lower {w:World} {b b':Nat} {T:TypeId} {size n:Nat} {v:Value} {xs:List Value} (h:w.ownsRow b' T size v n xs) (hb:b≤b'):w.ownsRow b T size v n xs:=by
 obtain⟨h1,h2|⟨g,cap,cur,h3,h4,h5⟩⟩:=h
 ·exact⟨h1,.inl h2⟩
 ·exact⟨h1,.inr ⟨g,cap,cur,h3,Nat.le_trans hb h4,h5⟩⟩
theorem own_some {w:World} {b:Nat} {T:TypeId} {size n:Nat} {v:Value} {xs:List Value} (h:w.ownsRow b T size v n xs) (hn:0<n):v≠ .slice none 0 0:=by
 intro e
 obtain⟨h1,⟨_,h2⟩|⟨g,cap,cur,h3,h4,h5⟩⟩:=h
 ·omega
 ·rw[e]at h3;cases h3
theorem own_type {w:World} {b:Nat} {T:TypeId} {size n:Nat} {v:Value} {xs:List Value} (h:w.ownsRow b T size v n xs):∀ r,v.ownBlock=some r→∃ cur fr,w.heap[r]?=some (.cells cur T fr):=by
 intro r e
 obtain⟨h1,⟨h2,_⟩|⟨g,cap,cur,h3,h4,h5,_⟩⟩:=h
 ·rw[h2]at e;cases e
 ·rw[h3]at e
  cases e
  exact⟨cur,_,h5⟩
theorem Ins.grown {w w':World} {b:Nat} {v:Value} {n:Nat} {xs:List Value} {qs:List PV} (h:Ins w qs) (ho:w.ownsRow b 219 2 v n xs) (hg:w.grownBy w' v.ownBlock):Ins w' qs:=fun q hq =>
 (h q hq).grown hg (own_type ho) (by decide)
theorem wp_two (w:World) (v1 v2:Value) (t:TypeId):∀ j (h:j<2),((w.alloc (.cells #[v1,v2] t)).drew).cell? ⟨w.heap.size,j,none⟩=some (if j=0 then v1 else v2):=by
 intro j hj
 have h:=two_cells w v1 v2 t
 rcases j with _|_|j
 ·exact h.1
 ·exact h.2
 ·omega
theorem concat_two (v1 v2:Value) (n1 n2:Nat) (k1 k2:List Nat) (w:World) (h1:Rd w 3 1 v1 n1 (k1.map nv)) (h2:Rd w 3 1 v2 n2 (k2.map nv)) (hp:0<n1+n2) (hb:n1+n2≤1000000) :
  Calls Tryz.prog 121 #[.slice (some ⟨w.heap.size,0,none⟩) 2 2] ((w.alloc (.cells #[v1,v2] 55)).drew) fun e w'=>∃ gn cn,e= .returned (.slice (some ⟨gn,0,none⟩) (n1+n2) cn)∧w'.ownsRow w.heap.size 3 1 (.slice (some ⟨gn,0,none⟩) (n1+n2) cn) (n1+n2) ((k1++k2).map nv)∧Below w.heap.size w w':=by
 have hB0:Below w.heap.size w ((w.alloc (.cells #[v1,v2] 55)).drew):=((Below.refl w.heap.size w).alloc (Nat.le_refl _) _).drew
 have hsz:((w.alloc (.cells #[v1,v2] 55)).drew).heap.size=w.heap.size+1:=by
  show(w.heap.push _).size=_
  simp
 refine(ci_calls w.heap.size 2 [(v1,n1,k1.map nv),(v2,n2,k2.map nv)] _ ?_ ?_ ?_ ?_ ?_ (by simp)).mono ?_
 ·intro j hj
  have hj2:j<2:=by simpa using hj
  rw[wp_two w v1 v2 _ j hj2]
  rcases j with _|_|j
  ·rfl
  ·rfl
  ·omega
 ·intro j hj
  have hj2:j<2:=by simpa using hj
  rcases j with _|_|j
  ·exact h1.below hB0
  ·exact h2.below hB0
  ·omega
 ·intro j hj
  have hj2:j<2:=by simpa using hj
  rcases j with _|_|j
  ·exact nv_one k1
  ·exact nv_one k2
  ·omega
 ·simpa[ci_sum] using hp
 ·simpa[ci_sum] using hb
 ·rintro e w' ⟨v,rfl,ho,hb2⟩
  have e1:ci_sum [(v1,n1,k1.map nv),(v2,n2,k2.map nv)] 2=n1+n2:=by simp[ci_sum]
  have e2:ci_cat [(v1,n1,k1.map nv),(v2,n2,k2.map nv)] 2=(k1++k2).map nv:=by simp[ci_cat]
  have ho2:w'.ownsRow w.heap.size 3 1 v (n1+n2) ((k1++k2).map nv):=own_lower (by rw[← e1,← e2];exact ho) (by rw[hsz];omega)
  obtain⟨gn,cn,rfl,_,_⟩:=ho2.form hp
  exact⟨gn,cn,rfl,ho2,hB0.trans (hb2.mono (by rw[hsz];omega))⟩
theorem own_below {w w':World} {b:Nat} {T:TypeId} {size n:Nat} {v:Value} {xs:List Value} (h:w.ownsRow b T size v n xs) (hb:Below w.heap.size w w'):w'.ownsRow b T size v n xs:=by
 obtain⟨h1,h2|⟨g,cap,cur,h3,h4,h5,h6⟩⟩:=h
 ·exact⟨h1,.inl h2⟩
 ·exact⟨h1,.inr ⟨g,cap,cur,h3,h4,(hb.block g (Array.getElem?_eq_some_iff.1 h5).1).trans h5,h6⟩⟩
theorem news_two (w:World) (v u:Value) (t:TypeId):∀ j x,[v,u][j]?=some x→(w.alloc (.cells #[v,u] t)).cell? ((⟨w.heap.size,0,none⟩:Addr).add j)=some x :=
 World.news_of_block (heap_new w (.cells #[v,u] t))
theorem two_one (x:Int) (B n c:Nat):∀ u∈ [Value.int .i64 x,.slice (some ⟨B,0,none⟩) n c],u.oneCell'=true:=by
 intro u hu
 simp only[List.mem_cons,List.not_mem_nil,or_false]at hu
 rcases hu with rfl|rfl<;>rfl
theorem two_one' (x:Int) (B o n c:Nat):∀ u∈ [Value.int .i64 x,.slice (some ⟨B,o,none⟩) n c],u.oneCell'=true:=by
 intro u hu
 simp only[List.mem_cons,List.not_mem_nil,or_false]at hu
 rcases hu with rfl|rfl<;>rfl
def pairsP:List (Int×List Nat)→List (Int×List Nat)
 | a::b::r=>(a.1+b.1,a.2++b.2)::pairsP r
 | _=> []
theorem pairsP_len:∀ l,(pairsP l).length=l.length/2
 | []=>rfl
 | [_]=>by simp[pairsP]
 | a::b::r=>by
  have:=pairsP_len r
  simp only[pairsP,List.length_cons]
  omega
theorem pairsP_get:∀ (l:List (Int×List Nat)) (k:Nat) (h:2*k+1<l.length),(pairsP l)[k]?=some (l[2*k].1+l[2*k+1].1,l[2*k].2++l[2*k+1].2)
 | [],k,h=>by simp at h
 | [_],k,h=>by simp at h
 | a::b::r,0,h=>rfl
 | a::b::r,k+1,h=>by
  have:=pairsP_get r k (by simp at h;omega)
  simp only[pairsP,List.getElem?_cons_succ]
  rw[this]
  rfl
end Go.Proofs.YtgiogemkomgkhaaGreatDoor.Mg
