/-
  Merge: the symbols that come, the rarest first.
-/
import Derived.Test.YtgiogemkomgkhaaGreatDoorKMgBase
import Derived.Shelf.SlSortCmp.NoneTotal
import Derived.Deep.AppendLies
import Derived.OwnWalk
set_option linter.unusedVariables false
set_option linter.unusedSimpArgs false
namespace Go.Proofs.YtgiogemkomgkhaaGreatDoor.Mg
open Go.ChangeShapes Go.WideShapes Go.ChangeAt Go.RowKit Go.Shelf Go.Proofs
set_option maxHeartbeats 1000000 in
theorem used1_calls (B g o n c:Nat) (x y p q:Int) (w:World) (h1:w.cell? ⟨B,0,none⟩=some (.slice (some ⟨g,o,none⟩) n c)) (hx:0≤x∧x<n) (hy:0≤y∧y<n)
  (h2:w.cell? ⟨g,o+x.toNat,none⟩=some (.int .i64 p)) (h3:w.cell? ⟨g,o+y.toNat,none⟩=some (.int .i64 q)) :
  Calls Tryz.prog 158 #[.int .i64 x,.int .i64 y,.pointer (some ⟨B,0,none⟩)] w fun e w'=>e= .returned (.int .i64 (or2 (Lib.compareInt p q) (Lib.compareInt y x)))∧w'=(w.drewN 1).alloc (.cells #[.int .i64 (Lib.compareInt p q),.int .i64 (Lib.compareInt y x)] 3):=by
 obtain⟨x1,x2⟩:=hx
 obtain⟨y1,y2⟩:=hy
 have HT:=two_cells w (.int .i64 (Lib.compareInt p q)) (.int .i64 (Lib.compareInt y x)) 3
 go_enter Tryz.func158,Tryz.ntmps158
 go_wp2
 go_region_with ((first|(go_at_call 160;refine(Tryz.cmp_Compare_int _ _ _).mono ?_;rintro e w' ⟨rfl,rfl⟩)|(go_at_call 159;refine(or_calls _ _ _ _ HT.1 HT.2).mono ?_;rintro e w' ⟨rfl,rfl⟩)))
 all_goals go_wp2
 all_goals go_ret
 all_goals exact⟨rfl,rfl⟩
end Go.Proofs.YtgiogemkomgkhaaGreatDoor.Mg
namespace Go.Proofs.YtgiogemkomgkhaaGreatDoor.Mg
open Go.ChangeShapes Go.WideShapes Go.ChangeAt Go.RowKit Go.Shelf Go.Proofs
abbrev Pl (n:Nat):= { x:Int // 0≤x∧x<n }
instance {n:Nat} [h:NeZero n]:Inhabited (Pl n):=⟨⟨0,Int.le_refl _,by have:=h.out;omega⟩⟩
def ct (cs:List Int) (x:Int):Int:=cs.getD x.toNat 0
def cfU (cs:List Int) (x y:Pl cs.length):Int:=or2 (Lib.compareInt (ct cs x.1) (ct cs y.1)) (Lib.compareInt y.1 x.1)
theorem cf_neg (cs:List Int) (x y:Pl cs.length):ltOf (cfU cs) x y=decide (ct cs x.1<ct cs y.1∨(ct cs x.1=ct cs y.1∧y.1<x.1)):=by
 show decide (cfU cs x y<0)=_
 congr 1
 apply propext
 unfold cfU or2 Lib.compareInt
 split<;>rename_i h<;>(repeat (split at h))<;>(repeat split)<;>omega
theorem swoU (cs:List Int):Sort.SWO (ltOf (cfU cs)):=by
 constructor
 ·intro x
  rw[cf_neg]
  exact decide_eq_false (by omega)
 ·intro x y u h1 h2
  rw[cf_neg]at *
  have h1:=of_decide_eq_true h1
  have h2:=of_decide_eq_true h2
  exact decide_eq_true (by omega)
 ·intro x y u h1 h2
  rw[cf_neg]at *
  have h1:=of_decide_eq_false h1
  have h2:=of_decide_eq_false h2
  exact decide_eq_false (by omega)
theorem totU (cs:List Int) (x y:Pl cs.length) (h1:ltOf (cfU cs) x y=false) (h2:ltOf (cfU cs) y x=false):x=y:=by
 rw[cf_neg]at *
 have h1:=of_decide_eq_false h1
 have h2:=of_decide_eq_false h2
 exact Subtype.ext (by omega)
def idxTo (cs:List Int):Nat→List (Pl cs.length)
 | 0=> []
 | k+1=>if h:k<cs.length then(if 0<cs[k] then idxTo cs k ++ [⟨(k:Int),by omega⟩] else idxTo cs k) else idxTo cs k
def usedL (cs:List Int):List (Pl cs.length):=(idxTo cs cs.length).mergeSort fun x y=> !(ltOf (cfU cs)) y x
theorem idx_len (cs:List Int):∀ k,(idxTo cs k).length≤k
 | 0=>Nat.le_refl _
 | k+1=>by
  have:=idx_len cs k
  unfold idxTo
  split
  ·split
   ·rw[List.length_append];simp;omega
   ·omega
  ·omega
theorem own_slice {w:World} {base:Nat} {e:TypeId} {size:Nat} {v:Value} {n:Nat} {xs:List Value} (h:w.ownsRow base e size v n xs):∃ A c,v= .slice A n c:=by
 obtain⟨_,⟨rfl,rfl⟩|⟨g,cap,cur,rfl,_⟩⟩:=h
 ·exact⟨none,0,rfl⟩
 ·exact⟨_,_,rfl⟩
theorem run_enter {P:Program} {f:FuncId} {fn:Func} (hf:P.funcs[f]?=some fn) (hname:(fn.name == "runtime.NumGoroutine")=false) (hb:fn.body.isSome=true) (args:Array Value) (w:World) :
  (callFunc f args).run P w= .ok (.enter f args) w:=by
 have h1:fn.name≠ "runtime.NumGoroutine" :=by simpa using hname
 obtain⟨c,hc⟩:=Option.isSome_iff_exists.1 hb
 simp[callFunc,hf,h1,hc]
def encP {n:Nat} (x:Pl n):Value:= .int .i64 x.1
noncomputable def ti:TypeInfo:=(Tryz.prog.info? 3).get (by kernel_rfl)
set_option maxHeartbeats 4000000 in
set_option maxRecDepth 200000 in
theorem used_calls (g o c:Nat) (cs:List Int) (w:World) (hlen:cs.length≤1000) (hA:∀ j (h:j<cs.length),w.cell? ⟨g,o+j,none⟩=some (.int .i64 cs[j])) (h0:0<cs.length) :
  Calls Tryz.prog 142 #[.slice (some ⟨g,o,none⟩) cs.length c] w fun e w'=>∃ (A:Option Addr) (cap:Nat),e= .returned (.slice A (usedL cs).length cap)∧Below w.heap.size w w' ∧
   ∀ j (h:j<(usedL cs).length),∃ g',A=some ⟨g',0,none⟩∧w.heap.size≤g'∧w'.cell? ⟨g',j,none⟩=some (encP (usedL cs)[j]):=by
 have hi:Tryz.prog.info? 3=some ti:=by kernel_rfl
 have hz0:ti.zero=some (.int .i64 0):=by kernel_rfl
 have hz1:ti.size=1:=by kernel_rfl
 have hz2:ti.bytes=8:=by kernel_rfl
 have HB0:=Lib.hid ((Below.refl w.heap.size w).alloc (Nat.le_refl _) (.cells #[.slice (some ⟨g,o,none⟩) cs.length c] 55))
 have HC:Hid (∀ j (h:j<cs.length),(w.alloc (.cells #[.slice (some ⟨g,o,none⟩) cs.length c] 55)).cell? ⟨g,o+j,none⟩=some (.int .i64 cs[j])):=Lib.hid (fun j h=>(HB0.out.cell (World.block_lt_of_cell? w _ (hA j h))).trans (hA j h))
 have hw1:(w.alloc (.cells #[.slice (some ⟨g,o,none⟩) cs.length c] 55)).heap.size=w.heap.size+1:=by simp
 have cB:(w.alloc (.cells #[.slice (some ⟨g,o,none⟩) cs.length c] 55)).cell? ⟨w.heap.size,0,none⟩=some (.slice (some ⟨g,o,none⟩) cs.length c):=by
  simp only[World.cell?]
  rw[heap_new]
  rfl
 clear hA
 go_enter Tryz.func142,Tryz.ntmps142
 go_wp2
 obtain⟨w1,hw⟩:∃ w1,w1=w.alloc (.cells #[.slice (some ⟨g,o,none⟩) cs.length c] 55):=⟨_,rfl⟩
 rw[← hw]at hw1 cB HC ⊢
 have HW:=Lib.hid hw
 have HZ:=Lib.hid hw1
 clear hw hw1
 go_loopw [3,8] (fun v i wr=>∃ k:Nat,k≤cs.length∧i= .int .i64 k∧wr.ownsRow w1.heap.size 3 1 v (idxTo cs k).length ((idxTo cs k).map encP)∧Below w1.heap.size w1 wr) (fun _ i _=>cs.length - (intOf i).toNat)
 case atStart=>exact⟨0,Nat.zero_le _,rfl,World.ownsRow_nil _ _ _ _,Below.refl _ _⟩
 case round =>
  obtain⟨k,hk,rfl,hown,hb⟩:=hrel
  have HB:=Lib.hid hb
  have hB1:=hb.size
  have hil:=idx_len cs k
  obtain⟨A,c',rfl⟩:=own_slice hown
  clear hb
  by_cases hlt:k<cs.length
  ·have q1:decide ((k:Int)<(cs.length:Int))=true:=decide_eq_true (by omega)
   have hcell:=(HB.out.cell (World.block_lt_of_cell? w1 _ (HC.out k hlt))).trans (HC.out k hlt)
   obtain⟨x,hx⟩:∃ x,cs[k]=x:=⟨_,rfl⟩
   rw[hx]at hcell
   have HX:=Lib.hid hx
   clear hx
   by_cases hp:0<x
   ·have t1:decide (0<x)=true:=decide_eq_true hp
    have HI:Hid (idxTo cs (k+1)=idxTo cs k ++ [⟨(k:Int),by omega⟩]):=Lib.hid (by
     conv=>lhs;unfold idxTo
     rw[dif_pos hlt,if_pos (by rw[HX.out];exact hp)])
    clear hp
    go_wp2_with (at_builtin;refine wpList_append_own _ rfl _ _ 55 rfl w1.heap.size 3 ti (.int .i64 0) 1 8 Tryz.underlying55 hi hz0 hz1 hz2 rfl (by decide) _ _ _ rfl (hown.alloc _) ⟨wr.heap.size,0,none⟩ 1 1 [.int .i64 k] rfl rfl ?c1 ?c2 ?c3 ?c4 ?c5 ?_)
    case c1=>exact cell_one_new _ _ _
    case c2=>simp[Value.oneCell']
    case c3=>unfold maxLen;omega
    case c4=>omega
    case c5=>simp;omega
    intro v' w2 hown1 hg1 _
    have HO:Hid (w2.ownsRow w1.heap.size 3 1 v' (idxTo cs (k+1)).length ((idxTo cs (k+1)).map encP)):=Lib.hid (by rw[HI.out,List.length_append,List.map_append];exact hown1)
    have HB2:Hid (Below w1.heap.size w1 w2):=Lib.hid ((HB.out.alloc hB1 _).grown hg1 (by simp;omega) (fun r e=>(hown.lt r e).1))
    clear hown hown1 hg1
    go_wp2
    go_roundw
    case rel=>exact⟨k+1,by omega,by go_num,HO.out,HB2.out⟩
    case measure=>simp[intOf];omega
   ·have t1:decide (0<x)=false:=decide_eq_false hp
    have HI:Hid (idxTo cs (k+1)=idxTo cs k):=Lib.hid (by
     conv=>lhs;unfold idxTo
     rw[dif_pos hlt,if_neg (by rw[HX.out];exact hp)])
    have HO:Hid (wr.ownsRow w1.heap.size 3 1 (.slice A (idxTo cs k).length c') (idxTo cs (k+1)).length ((idxTo cs (k+1)).map encP)):=Lib.hid (by rw[HI.out];exact hown)
    clear hp hown
    go_wp2
    go_roundw
    case rel=>exact⟨k+1,by omega,by go_num,HO.out,HB.out⟩
    case measure=>simp[intOf];omega
  ·obtain rfl:k=cs.length:=by omega
   have q1:decide ((cs.length:Int)<(cs.length:Int))=false:=decide_eq_false (by omega)
   by_cases hne:idxTo cs cs.length= []
   ·have hln:(idxTo cs cs.length).length=0:=by rw[hne];rfl
    have HU:Hid (usedL cs= []):=Lib.hid (by unfold usedL;rw[hne];simp)
    rw[hln]
    clear hne hown hil hln
    have hso:=fun v W=>AnyF.slices_SortFunc_none (P:=Tryz.prog) { Tryz.laysSlF6_f157 with } A c' v W
    have HSO:=Lib.hid hso
    clear hso
    go_wp2_with (go_at_call 157;refine(HSO.out _ _).mono ?_;rintro e w3 ⟨rfl,rfl⟩)
    go_ret
    refine⟨A,c',by rw[HU.out]<;>rfl,HB0.out.trans (by rw[← HW.out];exact HB.out.mono (by rw[HZ.out];omega)),fun j h=>?_⟩
    rw[HU.out]at h
    cases h
   ·have hpos:0<(idxTo cs cs.length).length:=List.length_pos_iff.2 hne
    haveI:NeZero cs.length:=⟨by omega⟩
    obtain⟨hxl,⟨hh,h2⟩|⟨g',cap,cur,hh,hg,hcur,hnc,hcm,hsz,htk⟩⟩:=hown
    ·omega
    injection hh with hh1 hh2 hh3
    subst hh1
    subst hh3
    have hH:Sort.Holds encP wr g' 0 (idxTo cs cs.length).toArray:=fun j hj=>by
     have hj':j<(idxTo cs cs.length).length:=by simpa using hj
     have hc:cur[j]?=some (encP (idxTo cs cs.length)[j]):=by
      have h1:(cur.toList.take ((idxTo cs cs.length).length*1))[j]?=some (encP (idxTo cs cs.length)[j]):=by rw[htk,List.getElem?_map,List.getElem?_eq_getElem hj'];rfl
      rw[List.getElem?_take,if_pos (by omega)]at h1
      simpa using h1
     constructor
     ·rw[Nat.zero_add]
      simp only[World.cell?]
      rw[hcur]
      simp[hc,getElem!_pos,hj']
     ·simp only[World.frozen?]
      rw[hcur]
      rfl
    have hblk:g'<wr.heap.size:=(Array.getElem?_eq_some_iff.1 hcur).1
    have hUL:(usedL cs).length=(idxTo cs cs.length).length:=by unfold usedL;rw[List.length_mergeSort]
    have hcB:∀ (m:Nat) (os:Array Obj) (dk:Array (Pl cs.length)),dk.size=(idxTo cs cs.length).toArray.size→(sortWorld encP wr g' 0 m dk os).cell? ⟨w.heap.size,0,none⟩=some (.slice (some ⟨g,o,none⟩) cs.length c):=fun m os dk hd=>by
     have l1:=World.block_lt_of_cell? w1 _ cB
     simp only at l1
     unfold sortWorld
     rw[Sort.cell?_grow _ _ _ (by simp;omega),Sort.cell?_putRow_other _ _ _ _ _ _ (.inl (by simp;omega)),Sort.cell?_ahead]
     exact(HB.out.cell l1).trans cB
    have hcC:∀ (m:Nat) (os:Array Obj) (dk:Array (Pl cs.length)),dk.size=(idxTo cs cs.length).toArray.size→∀ j (h:j<cs.length),(sortWorld encP wr g' 0 m dk os).cell? ⟨g,o+j,none⟩=some (.int .i64 cs[j]):=fun m os dk hd j h=>by
     have l1:=World.block_lt_of_cell? w1 _ (HC.out j h)
     simp only at l1
     unfold sortWorld
     rw[Sort.cell?_grow _ _ _ (by simp;omega),Sort.cell?_putRow_other _ _ _ _ _ _ (.inl (by simp;omega)),Sort.cell?_ahead]
     exact(HB.out.cell l1).trans (HC.out j h)
    have hcmp:CmpLays1 Tryz.prog 158 #[.pointer (some ⟨w.heap.size,0,none⟩)] encP (cfU cs) g' 0 (idxTo cs cs.length).toArray.size wr:=fun m os dk hd x y=>by
     have kx:x.1.toNat<cs.length:=by have:=x.2;omega
     have ky:y.1.toNat<cs.length:=by have:=y.2;omega
     have ex:cs[x.1.toNat]=ct cs x.1:=by unfold ct;rw[List.getD_eq_getElem?_getD,List.getElem?_eq_getElem kx];rfl
     have ey:cs[y.1.toNat]=ct cs y.1:=by unfold ct;rw[List.getD_eq_getElem?_getD,List.getElem?_eq_getElem ky];rfl
     refine(used1_calls w.heap.size g o cs.length c x.1 y.1 (ct cs x.1) (ct cs y.1) _ (hcB m os dk hd) x.2 y.2 (by rw[← ex];exact hcC m os dk hd _ kx) (by rw[← ey];exact hcC m os dk hd _ ky)).mono ?_
     rintro e w' ⟨rfl,rfl⟩
     exact⟨rfl,1,_,Sort.alloc_eq_grow _ _⟩
    have hsf:=Any.slices_SortFunc_total Tryz.laysSlF6_f157 encP (fun _=>rfl) (cfU cs) (swoU cs) 158 #[.pointer (some ⟨w.heap.size,0,none⟩)] g' 0 c' (idxTo cs cs.length).toArray wr (fun args w=>run_enter Tryz.func158 (by kernel_rfl) (by kernel_rfl) args w) hcmp hH hblk (by simp;omega) (totU cs)
    have hds:(idxTo cs cs.length).toArray.size=(idxTo cs cs.length).length:=by simp
    rw[hds]at hsf
    have HSF:=Lib.hid hsf
    have HH:=Lib.hid hH
    have HK:=Lib.hid hblk
    have HG:=Lib.hid hg
    have HUL:=Lib.hid hUL
    clear hsf hcmp hcC hcB hH hblk hcur htk hsz hcm hnc hxl hne hpos hg hUL hds
    go_wp2_with (go_at_call 157;refine HSF.out.mono ?_;rintro e w3 ⟨rfl,n3,os3,hw3⟩;have HW3:=Lib.hid hw3;clear hw3)
    go_ret
    refine⟨some ⟨g',0,none⟩,c',by rw[HUL.out]<;>rfl,HB0.out.trans ?_,fun j h=>⟨g',rfl,by have:=HG.out;have:=HZ.out;omega,?_⟩⟩
    ·rw[← HW.out]
     refine(HB.out.mono (by rw[HZ.out];omega)).grown (row:=some g') ?_ (by have:=HB.out.size;have:=HZ.out;omega) (fun k e=>by cases e;have:=HG.out;have:=HZ.out;omega)
     rw[HW3.out]
     refine⟨rfl,rfl,rfl,by simp[sortWorld,Sort.grow],fun k hk hne=>?_⟩
     unfold sortWorld
     rw[Sort.heap_grow_old _ _ (by simpa using hk)]
     have:g'≠k:=fun e=>hne (by rw[e])
     simp[Sort.putRow,Sort.mapBlock,Sort.ahead,Array.getElem?_modify,this]
    ·have hj:j<(usedL cs).toArray.size:=by simpa using h
     have h1:=(holds_sortWorld encP wr g' 0 n3 (idxTo cs cs.length).toArray (usedL cs).toArray os3 HK.out HH.out (by simp[HUL.out])) j hj
     rw[Nat.zero_add]at h1
     rw[HW3.out]
     refine h1.1.trans ?_
     simp[getElem!_pos,h]
end Go.Proofs.YtgiogemkomgkhaaGreatDoor.Mg
namespace Go.Proofs.YtgiogemkomgkhaaGreatDoor.Mg
open Go.ChangeShapes Go.WideShapes Go.ChangeAt Go.RowKit Go.Shelf Go.Proofs
def badB (x:Int):Bool:=decide (x<0) || decide (1099511627776<x)
theorem bad_calls (x:Int) (w:World):Calls Tryz.prog 156 #[.int .i64 x] w fun e w'=>e= .returned (.bool (badB x))∧w'=w:=by
 unfold badB
 by_cases h:x<0
 ·have h':decide (x<0)=true:=decide_eq_true h
  clear h
  go_enter Tryz.func156,Tryz.ntmps156
  go_wp2
  go_ret
  exact⟨by simp[h'],rfl⟩
 ·have h':decide (x<0)=false:=decide_eq_false h
  clear h
  go_enter Tryz.func156,Tryz.ntmps156
  go_wp2
  go_ret
  exact⟨by simp[h'],rfl⟩
def firstBad (cs:List Int):Int:=match cs.findIdx? badB with|some k=>k|none=> -1
set_option maxHeartbeats 1000000 in
theorem indexfunc_calls (A:Option Addr) (c:Nat) (cs:List Int) (w:World) (hA:∀ j (h:j<cs.length),∃ g o,A=some ⟨g,o,none⟩∧w.cell? ⟨g,o+j,none⟩=some (.int .i64 cs[j])) (hl:cs.length≤140737488351232) :
  Calls Tryz.prog 153 #[.slice A cs.length c,.func (.func 156) #[] #[]] w fun e w'=>e= .returned (.int .i64 (firstBad cs))∧w'=w:=by
 obtain⟨ans,ha⟩:∃ ans,ans=firstBad cs:=⟨_,rfl⟩
 rw[← ha]
 have HA:=Lib.hid ha
 have HC:=Lib.hid hA
 clear ha hA
 go_enter Tryz.func153,Tryz.ntmps153
 go_wp2
 go_loop [8] (fun i=>∃ k:Nat,k≤cs.length∧i= .int .i64 k∧∀ j (h:j<cs.length),j<k→badB cs[j]=false) (fun i=>cs.length - (intOf i).toNat)
 case atStart=>exact⟨0,Nat.zero_le _,rfl,fun j _ h=>by omega⟩
 case round =>
  obtain⟨k,hk,rfl,hb⟩:=hrel
  have HB:=Lib.hid hb
  clear hb
  by_cases hlt:k<cs.length
  ·have q1:decide ((k:Int)<(cs.length:Int))=true:=decide_eq_true (by omega)
   obtain⟨g,o,rfl,hcell⟩:=HC.out k hlt
   obtain⟨x,hx⟩:∃ x,cs[k]=x:=⟨_,rfl⟩
   rw[hx]at hcell
   have HX:=Lib.hid hx
   clear hx
   cases hbx:badB x with
   | true =>
    go_wp2_with (go_at_call 156;refine(bad_calls _ _).mono ?_;rintro e w' ⟨rfl,rfl⟩)
    go_ret
    refine⟨?_,rfl⟩
    have:firstBad cs=k:=by
     have h:cs.findIdx? badB=some k:=by
      rw[List.findIdx?_eq_some_iff_getElem]
      exact⟨hlt,by rw[HX.out];exact hbx,fun j hj=>by rw[HB.out j (by omega) hj];simp⟩
     unfold firstBad
     rw[h]
    rw[HA.out,this]<;>rfl
   | false =>
    go_wp2_with (go_at_call 156;refine(bad_calls _ _).mono ?_;rintro e w' ⟨rfl,rfl⟩)
    go_round
    case rel =>
     refine⟨k+1,by omega,by go_num,fun j h hj=>?_⟩
     rcases Nat.lt_or_ge j k with h2|h2
     ·exact HB.out j h h2
     ·obtain rfl:j=k:=by omega
      rw[HX.out];exact hbx
    case measure=>simp[intOf];omega
  ·obtain rfl:k=cs.length:=by omega
   have q1:decide ((cs.length:Int)<(cs.length:Int))=false:=decide_eq_false (by omega)
   have:firstBad cs= -1:=by
    have h:cs.findIdx? badB=none:=by
     rw[List.findIdx?_eq_none_iff]
     intro x hx
     obtain⟨j,hj,rfl⟩:=List.mem_iff_getElem.1 hx
     exact HB.out j hj hj
    unfold firstBad
    rw[h]
   have HR:=Lib.hid this
   clear this
   go_wp2
   go_ret
   exact⟨by rw[HA.out,HR.out]<;>rfl,rfl⟩
theorem first_any (cs:List Int):decide (0≤firstBad cs)=cs.any badB:=by
 unfold firstBad
 cases h:cs.findIdx? badB with
 | none =>
  have:cs.any badB=false:=by
   rw[List.any_eq_false]
   intro x hx
   rw[List.findIdx?_eq_none_iff]at h
   simp[h x hx]
  rw[this]
  rfl
 | some k =>
  have:cs.any badB=true:=by
   rw[List.findIdx?_eq_some_iff_getElem]at h
   obtain⟨h1,h2,_⟩:=h
   rw[List.any_eq_true]
   exact⟨_,List.getElem_mem h1,h2⟩
  rw[this]
  exact decide_eq_true (Int.natCast_nonneg k)
theorem contains_calls (A:Option Addr) (c:Nat) (cs:List Int) (w:World) (hA:∀ j (h:j<cs.length),∃ g o,A=some ⟨g,o,none⟩∧w.cell? ⟨g,o+j,none⟩=some (.int .i64 cs[j])) (hl:cs.length≤140737488351232) :
  Calls Tryz.prog 132 #[.slice A cs.length c,.func (.func 156) #[] #[]] w fun e w'=>e= .returned (.bool (cs.any badB))∧w'=w:=by
 have hf:=first_any cs
 have HA:=Lib.hid hA
 clear hA
 go_enter Tryz.func132,Tryz.ntmps132
 go_wp2_with (go_at_call 153;refine(indexfunc_calls A c cs _ HA.out hl).mono ?_;rintro e w' ⟨rfl,rfl⟩)
 go_ret
 exact⟨by simp[hf],rfl⟩
def badArg (cs:List Int) (most:Int):Bool:=decide (288<cs.length) || cs.any badB || decide (most<1) || decide (15<most)
def wrongE (cs:List Int) (most:Int):Int:=if badArg cs most then 1 else if (2:Int) ^ most.toNat<(usedL cs).length then 11 else 0
def Reads (w:World) (A:Option Addr) (cs:List Int):Prop:=∀ j (h:j<cs.length),∃ g o,A=some ⟨g,o,none⟩∧w.cell? ⟨g,o+j,none⟩=some (.int .i64 cs[j])
def UsedAt (w w':World) (cs:List Int) (e:Ending):Prop :=
 ∃ (A:Option Addr) (cap:Nat),e= .returned (.slice A (usedL cs).length cap)∧Below w.heap.size w w' ∧
  ∀ j (h:j<(usedL cs).length),∃ g',A=some ⟨g',0,none⟩∧w.heap.size≤g'∧w'.cell? ⟨g',j,none⟩=some (encP (usedL cs)[j])
set_option maxHeartbeats 1000000 in
theorem used_empty (A:Option Addr) (c:Nat) (w:World):Calls Tryz.prog 142 #[.slice A 0 c] w fun e w'=>UsedAt w w' [] e:=by
 have HB0:=Lib.hid ((Below.refl w.heap.size w).alloc (Nat.le_refl _) (.cells #[.slice A 0 c] 55))
 have cB:(w.alloc (.cells #[.slice A 0 c] 55)).cell? ⟨w.heap.size,0,none⟩=some (.slice A 0 c):=by
  simp only[World.cell?]
  rw[heap_new]
  rfl
 have HSO:=Lib.hid (fun v W=>AnyF.slices_SortFunc_none (P:=Tryz.prog) { Tryz.laysSlF6_f157 with } none 0 v W)
 have HU:Hid (usedL []= []):=Lib.hid (by simp[usedL,idxTo])
 obtain⟨w1,hw⟩:∃ w1,w1=w.alloc (.cells #[.slice A 0 c] 55):=⟨_,rfl⟩
 go_enter Tryz.func142,Tryz.ntmps142
 go_wp2
 rw[← hw]at cB HB0 ⊢
 clear hw
 go_loopw [3,8] (fun v i wr=>v= .slice none 0 0∧i= .int .i64 0∧wr=w1) (fun _ _ _=>0)
 case atStart=>exact⟨rfl,rfl,rfl⟩
 case round =>
  obtain⟨rfl,rfl,rfl⟩:=hrel
  go_wp2_with (go_at_call 157;refine(HSO.out _ _).mono ?_;rintro e w3 ⟨rfl,rfl⟩)
  go_ret
  refine⟨none,0,by rw[HU.out]<;>rfl,HB0.out,fun j h=>?_⟩
  rw[HU.out]at h
  cases h
theorem used_any (A:Option Addr) (c:Nat) (cs:List Int) (w:World) (hl:cs.length≤1000) (hA:Reads w A cs):Calls Tryz.prog 142 #[.slice A cs.length c] w fun e w'=>UsedAt w w' cs e:=by
 by_cases h0:0<cs.length
 ·obtain⟨g,o,rfl,_⟩:=hA 0 h0
  exact used_calls g o c cs w hl (fun j h=>by obtain⟨g',o',he,hc⟩:=hA j h;cases he;exact hc) h0
 ·obtain rfl:cs= []:=List.eq_nil_of_length_eq_zero (by omega)
  exact used_empty A c w
end Go.Proofs.YtgiogemkomgkhaaGreatDoor.Mg
namespace Go.Proofs.YtgiogemkomgkhaaGreatDoor.Mg
open Go.ChangeShapes Go.WideShapes Go.ChangeAt Go.RowKit Go.Shelf Go.Proofs
theorem badArg_facts {cs:List Int} {most:Int} (h:badArg cs most=false):cs.length≤288∧cs.any badB=false∧1≤most∧most≤15:=by
 unfold badArg at h
 simp only[Bool.or_eq_false_iff,decide_eq_false_iff_not]at h
 obtain⟨⟨⟨h1,h2⟩,h3⟩,h4⟩:=h
 exact⟨by omega,h2,by omega,by omega⟩
theorem used_drew (A:Option Addr) (c:Nat) (cs:List Int) (w:World) (hl:cs.length≤1000) (hA:Reads w A cs):Calls Tryz.prog 142 #[.slice A cs.length c] w.drew fun e w'=>∃ (A:Option Addr) (cap:Nat),e= .returned (.slice A (usedL cs).length cap)∧Below w.heap.size w w' :=
 (used_any A c cs w.drew hl (fun j h=>hA j h)).mono fun e w' ⟨A,cap,he,hb,_⟩=>⟨A,cap,he,⟨hb.os,hb.tape,hb.output,hb.size,hb.block⟩⟩
set_option maxHeartbeats 4000000 in
theorem wrong_fine (A:Option Addr) (c:Nat) (cs:List Int) (most:Int) (w:World) (hA:Reads w A cs) (hb:badArg cs most=false) :
  Calls Tryz.prog 141 #[.slice A cs.length c,.int .i64 most] w fun e w'=>e= .returned (.int .i64 (wrongE cs most))∧Below w.heap.size w w':=by
 obtain⟨h1,h2,h3,h4⟩:=badArg_facts hb
 have t1:decide (288<(cs.length:Int))=false:=decide_eq_false (by omega)
 have t2:decide (most<1)=false:=decide_eq_false (by omega)
 have t3:decide (15<most)=false:=decide_eq_false (by omega)
 have hl:cs.length≤140737488351232:=by omega
 have hl2:cs.length≤1000:=by omega
 have HA:=Lib.hid hA
 have hb0:=Lib.hid hb
 clear hA hb h1
 have hP:IntKind.i64.wrap ((2:Int) ^ most.toNat)=(2:Int) ^ most.toNat:=by
  have h5:most.toNat≤15:=by omega
  have h6:(2:Int) ^ most.toNat≤2 ^ 15:=by
   have:=Nat.pow_le_pow_right (n:=2) (by omega) h5
   exact_mod_cast this
  have h7:(0:Int)≤2 ^ most.toNat:=by
   exact Int.pow_nonneg (by omega)
  rw[IntKind.wrap_i64]
  omega
 have HWE:Hid (wrongE cs most=if (2:Int) ^ most.toNat<(usedL cs).length then 11 else 0):=Lib.hid (by unfold wrongE;rw[if_neg (by rw[hb0.out];simp)])
 obtain⟨P,hPP⟩:∃ P,P=(2:Int) ^ most.toNat:=⟨_,rfl⟩
 rw[← hPP]at HWE
 rw[← hPP]at hP
 obtain⟨L,hL⟩:∃ L,L=(usedL cs).length:=⟨_,rfl⟩
 rw[← hL]at HWE
 have HPP:=Lib.hid hPP
 have HL:=Lib.hid hL
 cases t4:decide (P<(L:Int)) with
 | true =>
  have HR:Hid (wrongE cs most=11):=Lib.hid (by rw[HWE.out,if_pos (of_decide_eq_true t4)])
  rw[hPP]at hP t4
  rw[hL]at t4
  clear hPP hL
  go_enter Tryz.func141,Tryz.ntmps141
  go_wp2_with (go_at_call 132;refine(contains_calls A c cs _ HA.out hl).mono ?_;rintro e w' ⟨rfl,rfl⟩)
  go_region_with ((first|(go_at_call 142;refine(used_drew A c cs _ hl2 HA.out).mono ?_;rintro e w2 ⟨A2,cap2,rfl,hb2⟩)))
  all_goals go_wp2
  all_goals go_ret
  all_goals exact⟨by rw[HR.out]<;>rfl,hb2⟩
 | false =>
  have HR:Hid (wrongE cs most=0):=Lib.hid (by rw[HWE.out,if_neg (of_decide_eq_false t4)])
  rw[hPP]at hP t4
  rw[hL]at t4
  clear hPP hL
  go_enter Tryz.func141,Tryz.ntmps141
  go_wp2_with (go_at_call 132;refine(contains_calls A c cs _ HA.out hl).mono ?_;rintro e w' ⟨rfl,rfl⟩)
  go_region_with ((first|(go_at_call 142;refine(used_drew A c cs _ hl2 HA.out).mono ?_;rintro e w2 ⟨A2,cap2,rfl,hb2⟩)))
  all_goals go_wp2
  all_goals go_ret
  all_goals exact⟨by rw[HR.out]<;>rfl,hb2⟩
end Go.Proofs.YtgiogemkomgkhaaGreatDoor.Mg
