/-
  block.dynamicCoder: the codes of the kind Dynamic.
-/
import Derived.Test.YtgiogemkomgkhaaGreatDoorKBkTok
import Derived.Test.YtgiogemkomgkhaaGreatDoorKBkA
set_option linter.unusedVariables false
set_option linter.unusedSimpArgs false
namespace Go.Proofs.YtgiogemkomgkhaaGreatDoor.Bk
open Go.RowKit Go.Shelf Mg Bw Ri
def bumpI (o:List Int) (i:Nat):List Int:=o.set i (o.getD i 0+1)
theorem bumpI_len (o:List Int) (i:Nat):(bumpI o i).length=o.length:=by simp[bumpI]
def stepS (o:List Int) (t:Tok):List Int:=if t.len=0 then bumpI o t.b.toNat else bumpI o (257+lenD t.len.toNat)
def stepD (o:List Int) (t:Tok):List Int:=if t.len=0 then o else bumpI o (dstD t.dist.toNat)
def cntS (ts:List Tok):List Int:=ts.foldl stepS ((List.replicate 286 0).set 256 1)
def cntD (ts:List Tok):List Int:=ts.foldl stepD (List.replicate 30 0)
theorem stepS_len (o:List Int) (t:Tok):(stepS o t).length=o.length:=by
 unfold stepS
 split<;>exact bumpI_len _ _
theorem stepD_len (o:List Int) (t:Tok):(stepD o t).length=o.length:=by
 unfold stepD
 split
 ·rfl
 ·exact bumpI_len _ _
theorem foldS_len:∀ (ts:List Tok) (o:List Int),(ts.foldl stepS o).length=o.length
 | [],_=>rfl
 | t::ts,o=>(foldS_len ts _).trans (stepS_len o t)
theorem foldD_len:∀ (ts:List Tok) (o:List Int),(ts.foldl stepD o).length=o.length
 | [],_=>rfl
 | t::ts,o=>(foldD_len ts _).trans (stepD_len o t)
theorem cntS_len (ts:List Tok):(cntS ts).length=286:=(foldS_len ts _).trans (by rw[List.length_set,List.length_replicate])
theorem cntD_len (ts:List Tok):(cntD ts).length=30:=(foldD_len ts _).trans (by simp)
theorem cntS_take (ts:List Tok) (k:Nat) (h:k<ts.length):cntS (ts.take (k+1))=stepS (cntS (ts.take k)) ts[k]:=by
 rw[List.take_succ_eq_append_getElem h]
 unfold cntS
 rw[List.foldl_append]
 rfl
theorem cntD_take (ts:List Tok) (k:Nat) (h:k<ts.length):cntD (ts.take (k+1))=stepD (cntD (ts.take k)) ts[k]:=by
 rw[List.take_succ_eq_append_getElem h]
 unfold cntD
 rw[List.foldl_append]
 rfl
def InB (M:Int) (o:List Int):Prop:=∀ x∈o,0≤x∧x≤M
theorem bumpI_in {M:Int} {o:List Int} (h:InB M o) (hM:0≤M) (i:Nat):InB (M+1) (bumpI o i):=by
 intro x hx
 have hg:0≤o.getD i 0∧o.getD i 0≤M:=by
  rcases Nat.lt_or_ge i o.length with h1|h1
  ·rw[show o.getD i 0=o[i] by simp[List.getD,List.getElem?_eq_getElem h1]]
   exact h _ (List.getElem_mem h1)
  ·rw[show o.getD i 0=0 by simp[List.getD,List.getElem?_eq_none h1]]
   omega
 rcases List.mem_or_eq_of_mem_set hx with h1|h1
 ·have:=h x h1
  omega
 ·omega
theorem inB_up {M N:Int} {o:List Int} (h:InB M o) (hMN:M≤N):InB N o:=fun x hx=>⟨(h x hx).1,by have:=(h x hx).2;omega⟩
theorem stepS_in {M:Int} {o:List Int} (h:InB M o) (hM:0≤M) (t:Tok):InB (M+1) (stepS o t):=by
 unfold stepS
 split<;>exact bumpI_in h hM _
theorem stepD_in {M:Int} {o:List Int} (h:InB M o) (hM:0≤M) (t:Tok):InB (M+1) (stepD o t):=by
 unfold stepD
 split
 ·exact inB_up h (by omega)
 ·exact bumpI_in h hM _
theorem foldS_in:∀ (ts:List Tok) (o:List Int) (M:Int),0≤M→InB M o→InB (M+ts.length) (ts.foldl stepS o)
 | [],o,M,hM,h=>by simpa using h
 | t::ts,o,M,hM,h=>by
  have:=foldS_in ts (stepS o t) (M+1) (by omega) (stepS_in h hM t)
  rw[List.foldl_cons,List.length_cons]
  exact inB_up this (by omega)
theorem foldD_in:∀ (ts:List Tok) (o:List Int) (M:Int),0≤M→InB M o→InB (M+ts.length) (ts.foldl stepD o)
 | [],o,M,hM,h=>by simpa using h
 | t::ts,o,M,hM,h=>by
  have:=foldD_in ts (stepD o t) (M+1) (by omega) (stepD_in h hM t)
  rw[List.foldl_cons,List.length_cons]
  exact inB_up this (by omega)
theorem cntS_in (ts:List Tok):InB (1+ts.length) (cntS ts):=foldS_in ts _ 1 (by omega) (by
 intro x hx
 rcases List.mem_or_eq_of_mem_set hx with h|h
 ·have:=List.eq_of_mem_replicate h;omega
 ·omega)
theorem cntD_in (ts:List Tok):InB (1+ts.length) (cntD ts):=foldD_in ts _ 1 (by omega) (by
 intro x hx
 have:=List.eq_of_mem_replicate hx
 omega)
theorem bump_row {w:World} {B:Nat} {o:List Int} (h:RowI w B o) (i:Nat) (x:Int) (hx:o.getD i 0=x):RowI (w.setCell ⟨B,i,none⟩ (.int .i64 (x+1))) B (bumpI o i):=by
 unfold bumpI
 rw[hx]
 exact h.set i _
theorem row_cell {w:World} {B:Nat} {o:List Int} (h:RowI w B o) (i:Nat) (hi:i<o.length) {M:Int} (hM:InB M o):∃ x,o.getD i 0=x∧0≤x∧x≤M∧w.cell? ⟨B,i,none⟩=some (.int .i64 x)∧w.frozen? ⟨B,i,none⟩=false:=by
 have e:o.getD i 0=o[i]:=by simp[List.getD,List.getElem?_eq_getElem hi]
 obtain⟨h1,h2⟩:=h.cell i hi
 exact⟨o[i],e,(hM _ (List.getElem_mem hi)).1,(hM _ (List.getElem_mem hi)).2,h1,h2⟩
theorem row_other {w:World} {B B2 i:Nat} {o:List Int} {v:Value} (h:RowI w B o) (hne:B≠B2):RowI (w.setCell ⟨B2,i,none⟩ v) B o:=by
 unfold RowI at *
 rw[heap_setCell_other w ⟨B2,i,none⟩ B v hne]
 exact h
theorem keepR {W W':World} {b k:Nat} {o:List Int} (hb:Below W.heap.size W W') (h:b≤k∧k<W.heap.size∧RowI W k o):b≤k∧k<W'.heap.size∧RowI W' k o:=⟨h.1,Nat.lt_of_lt_of_le h.2.1 hb.size,h.2.2.below hb⟩
def tokIn (t:Tok):Prop:=(t.len=0∧0≤t.b∧t.b<256)∨(3≤t.len∧t.len≤258∧1≤t.dist∧t.dist≤32768)
set_option maxHeartbeats 8000000 in
set_option maxRecDepth 100000 in
theorem counts_calls (A:Option Addr) (c:Nat) (ts:List Tok) (w:World) (hA:TokAt w A ts) (hts:∀ t∈ts,tokIn t) (hn:ts.length≤1000000) :
  Calls Tryz.prog 116 #[.slice A ts.length c] w fun e w'=>∃ B1 B2,e= .returned (.tuple #[.slice (some ⟨B1,0,none⟩) 286 286,.slice (some ⟨B2,0,none⟩) 30 30])∧RowI w' B1 (cntS ts)∧RowI w' B2 (cntD ts)∧B1≠B2∧w.heap.size≤B1∧w.heap.size≤B2∧Below w.heap.size w w':=by
 obtain⟨i0,hi,hz0,hz1,hz2⟩:=info_parts info_int
 have hmk:∀ (n:Nat) (W:World),n≤1000→(Instr.makeSlice 55 (.int .i64 n) (.int .i64 n)).run Tryz.prog W= .ok (.slice (some ⟨W.heap.size,0,none⟩) n n) (W.alloc (.cells (cellsI (List.replicate n 0)) 3)):=fun n W hn=>by
  have:=run_make (P:=Tryz.prog) W 55 3 i0 (.int .i64 0) Tryz.underlying55 hi hz0 .i64 .i64 n n (by omega) (by omega) (by rw[hz2];omega) (by omega)
  rw[← made_cells]
  simpa[hz1,Value.cells] using this
 have HM1:Hid (∀ W:World,(Instr.makeSlice 55 (.int .i64 286) (.int .i64 286)).run Tryz.prog W= .ok (.slice (some ⟨W.heap.size,0,none⟩) 286 286) (W.alloc (.cells (cellsI (List.replicate 286 0)) 3))):=Lib.hid (fun W=>hmk 286 W (by omega))
 have HM2:Hid (∀ W:World,(Instr.makeSlice 55 (.int .i64 30) (.int .i64 30)).run Tryz.prog W= .ok (.slice (some ⟨W.heap.size,0,none⟩) 30 30) (W.alloc (.cells (cellsI (List.replicate 30 0)) 3))):=Lib.hid (fun W=>hmk 30 W (by omega))
 have HT:Hid (∀ W,Below w.heap.size w W→TokAt W A ts):=Lib.hid (fun W h=>hA.below h)
 have HTS:=Lib.hid hts
 have hfd:∀ (a b c:Value) (W:World),(Instr.field 188 (.agg #[a,b,c]) 0).run Tryz.prog W= .ok a W:=fun a b c W=>by kernel_rfl
 obtain⟨n,hn1⟩:∃ n,ts.length=n:=⟨_,rfl⟩
 have HN:=Lib.hid hn1
 have HSI:=Lib.hid (fun k=>cntS_in (ts.take k))
 have HDI:=Lib.hid (fun k=>cntD_in (ts.take k))
 rw[hn1]at hn ⊢
 clear hA hts hmk hi hz0 hz1 hz2 hn1
 go_enter Tryz.func116,Tryz.ntmps116
 go_upto_region 1 with fail
 refine wp_region_at [] 49 (fun a0 L a' wx=>∃ (x8 x9 x4 x5:Value) (k8:Nat) (k9:Nat),a'=putL a0 [(8,x8),(9,x9),(4,x4),(5,x5)]∧Hid (L 0=true→x8= .slice (some ⟨k8,0,none⟩) 286 286)∧Hid (L 1=true→x9= .slice (some ⟨k9,0,none⟩) 30 30)∧Hid (L 2=true→x4= .slice (some ⟨k8,0,none⟩) 286 286)∧Hid (L 3=true→x5= .slice (some ⟨k9,0,none⟩) 30 30)∧Hid (L 2=true→L 0=true)∧Hid (L 3=true→L 1=true)∧Hid (Below w.heap.size w wx)∧Hid (L 0=true→w.heap.size≤k8∧k8<wx.heap.size∧RowI wx k8 (List.replicate 286 0))∧Hid (L 1=true→w.heap.size≤k9∧k9<wx.heap.size∧RowI wx k9 (List.replicate 30 0))∧Hid (L 0=true→L 1=true→k8≠k9)) (by kernel_rfl) (by kernel_rfl) (by simp) (by simp[Olds,Act.eval]) (fun a0 hn0=>?_) (fun a0 QQ hn0 ho0=>?_) (fun L a' wx hall hI=>?_)
 ·refine⟨_,_,_,_,0,0,putL_self a0 [8,9,4,5],?_⟩
  exact⟨Lib.hid (fun h=>by cases h),Lib.hid (fun h=>by cases h),Lib.hid (fun h=>by cases h),Lib.hid (fun h=>by cases h),Lib.hid (fun h=>by cases h),Lib.hid (fun h=>by cases h),Lib.hid (Go.below_drewN (Below.refl _ _) 1),Lib.hid (fun h=>by cases h),Lib.hid (fun h=>by cases h),Lib.hid (fun h=>by cases h)⟩
 ·skip
  refine steps_cons (fun L a' wx KK hK hL hP hI=>?_) ?_
  ·obtain⟨x8,x9,x4,x5,k8,k9,ha,h0,h1,h2,h3,d2,d3,wb,w8,w9,wn⟩:=hI
   have HA:=Lib.hid ha
   clear ha
   unfold Oper.wp
   simp only[execOp]
   have hm:=HM1.out wx
   go_simp
   exact hK _ _ ⟨.slice (some ⟨wx.heap.size,0,none⟩) 286 286,x9,x4,x5,wx.heap.size,k9,(by rw[HA.out];exact putL_setB 8 _ _ rfl rfl a0),Lib.hid (fun _=>rfl),Lib.hid (fun h=>h1.out ((upd_other L 0 1 (by decide)).symm.trans h)),Lib.hid (fun h=>by have h2:=d2.out ((upd_other L 0 2 (by decide)).symm.trans h);rw[hL]at h2;cases h2),Lib.hid (fun h=>h3.out ((upd_other L 0 3 (by decide)).symm.trans h)),Lib.hid (fun _=>upd_same L 0),Lib.hid (fun h=>(upd_other L 0 1 (by decide)).trans (d3.out ((upd_other L 0 3 (by decide)).symm.trans h))),Lib.hid (bAlloc wb.out _),Lib.hid (fun _=>⟨wb.out.size,by simp,heap_new wx _⟩),Lib.hid (fun h=>keepR ((Below.refl _ _).alloc (Nat.le_refl _) _) (w9.out ((upd_other L 0 1 (by decide)).symm.trans h))),Lib.hid (fun _ h=>Ne.symm (Nat.ne_of_lt (w9.out ((upd_other L 0 1 (by decide)).symm.trans h)).2.1))⟩
  refine steps_cons (fun L a' wx KK hK hL hP hI=>?_) ?_
  ·obtain⟨x8,x9,x4,x5,k8,k9,ha,h0,h1,h2,h3,d2,d3,wb,w8,w9,wn⟩:=hI
   have HA:=Lib.hid ha
   clear ha
   unfold Oper.wp
   simp only[execOp]
   have hm:=HM2.out wx
   go_simp
   exact hK _ _ ⟨x8,.slice (some ⟨wx.heap.size,0,none⟩) 30 30,x4,x5,k8,wx.heap.size,(by rw[HA.out];exact putL_setB 9 _ _ rfl rfl a0),Lib.hid (fun h=>h0.out ((upd_other L 1 0 (by decide)).symm.trans h)),Lib.hid (fun _=>rfl),Lib.hid (fun h=>h2.out ((upd_other L 1 2 (by decide)).symm.trans h)),Lib.hid (fun h=>by have h2:=d3.out ((upd_other L 1 3 (by decide)).symm.trans h);rw[hL]at h2;cases h2),Lib.hid (fun h=>(upd_other L 1 0 (by decide)).trans (d2.out ((upd_other L 1 2 (by decide)).symm.trans h))),Lib.hid (fun _=>upd_same L 1),Lib.hid (bAlloc wb.out _),Lib.hid (fun h=>keepR ((Below.refl _ _).alloc (Nat.le_refl _) _) (w8.out ((upd_other L 1 0 (by decide)).symm.trans h))),Lib.hid (fun _=>⟨wb.out.size,by simp,heap_new wx _⟩),Lib.hid (fun h _=>Nat.ne_of_lt (w8.out ((upd_other L 1 0 (by decide)).symm.trans h)).2.1)⟩
  refine steps_cons (fun L a' wx KK hK hL hP hI=>?_) ?_
  ·obtain⟨x8,x9,x4,x5,k8,k9,ha,h0,h1,h2,h3,d2,d3,wb,w8,w9,wn⟩:=hI
   have p0:L 0=true:=pre_mem hP 0 (by decide)
   obtain rfl:=h0.out p0
   have v8:a'.eval (.tmp 8)= .slice (some ⟨k8,0,none⟩) 286 286:=by rw[ha];exact eval_new a0 8 _ (by rw[hn0];decide) _ (rfl:slotB 8 [(8,.slice (some ⟨k8,0,none⟩) 286 286),(9,x9),(4,x4),(5,x5)]=_)
   have s8:a'.tmps[8]?.getD undef= .slice (some ⟨k8,0,none⟩) 286 286:=by simpa[Act.eval] using v8
   have HA:=Lib.hid ha
   clear ha
   unfold Oper.wp
   simp only[execOp,v8]
   go_simp
   exact hK _ _ ⟨.slice (some ⟨k8,0,none⟩) 286 286,x9,.slice (some ⟨k8,0,none⟩) 286 286,x5,k8,k9,(by rw[HA.out];exact putL_setB 4 _ _ rfl rfl a0),Lib.hid (fun h=>h0.out ((upd_other L 2 0 (by decide)).symm.trans h)),Lib.hid (fun h=>h1.out ((upd_other L 2 1 (by decide)).symm.trans h)),Lib.hid (fun _=>rfl),Lib.hid (fun h=>h3.out ((upd_other L 2 3 (by decide)).symm.trans h)),Lib.hid (fun _=>(upd_other L 2 0 (by decide)).trans p0),Lib.hid (fun h=>(upd_other L 2 1 (by decide)).trans (d3.out ((upd_other L 2 3 (by decide)).symm.trans h))),wb,Lib.hid (fun h=>w8.out ((upd_other L 2 0 (by decide)).symm.trans h)),Lib.hid (fun h=>w9.out ((upd_other L 2 1 (by decide)).symm.trans h)),Lib.hid (fun h h2=>wn.out ((upd_other L 2 0 (by decide)).symm.trans h) ((upd_other L 2 1 (by decide)).symm.trans h2))⟩
  refine steps_cons (fun L a' wx KK hK hL hP hI=>?_) ?_
  ·obtain⟨x8,x9,x4,x5,k8,k9,ha,h0,h1,h2,h3,d2,d3,wb,w8,w9,wn⟩:=hI
   have p1:L 1=true:=pre_mem hP 1 (by decide)
   obtain rfl:=h1.out p1
   have v9:a'.eval (.tmp 9)= .slice (some ⟨k9,0,none⟩) 30 30:=by rw[ha];exact eval_new a0 9 _ (by rw[hn0];decide) _ (rfl:slotB 9 [(8,x8),(9,.slice (some ⟨k9,0,none⟩) 30 30),(4,x4),(5,x5)]=_)
   have s9:a'.tmps[9]?.getD undef= .slice (some ⟨k9,0,none⟩) 30 30:=by simpa[Act.eval] using v9
   have HA:=Lib.hid ha
   clear ha
   unfold Oper.wp
   simp only[execOp,v9]
   go_simp
   exact hK _ _ ⟨x8,.slice (some ⟨k9,0,none⟩) 30 30,x4,.slice (some ⟨k9,0,none⟩) 30 30,k8,k9,(by rw[HA.out];exact putL_setB 5 _ _ rfl rfl a0),Lib.hid (fun h=>h0.out ((upd_other L 3 0 (by decide)).symm.trans h)),Lib.hid (fun h=>h1.out ((upd_other L 3 1 (by decide)).symm.trans h)),Lib.hid (fun h=>h2.out ((upd_other L 3 2 (by decide)).symm.trans h)),Lib.hid (fun _=>rfl),Lib.hid (fun h=>(upd_other L 3 0 (by decide)).trans (d2.out ((upd_other L 3 2 (by decide)).symm.trans h))),Lib.hid (fun _=>(upd_other L 3 1 (by decide)).trans p1),wb,Lib.hid (fun h=>w8.out ((upd_other L 3 0 (by decide)).symm.trans h)),Lib.hid (fun h=>w9.out ((upd_other L 3 1 (by decide)).symm.trans h)),Lib.hid (fun h h2=>wn.out ((upd_other L 3 0 (by decide)).symm.trans h) ((upd_other L 3 1 (by decide)).symm.trans h2))⟩
  exact steps_nil
 ·obtain⟨x8,x9,x4,x5,k8,k9,ha,h0,h1,h2,h3,d2,d3,wb,w8,w9,wn⟩:=hI
  rw[ha]
  obtain rfl:=h0.out (hall 0 (by decide))
  obtain rfl:=h1.out (hall 1 (by decide))
  obtain rfl:=h2.out (hall 2 (by decide))
  obtain rfl:=h3.out (hall 3 (by decide))
  simp only[putL,List.foldl_cons,List.foldl_nil]
  have R8:=Lib.hid (w8.out (hall 0 (by decide)))
  have R9:=Lib.hid (w9.out (hall 1 (by decide)))
  have RN:=Lib.hid (wn.out (hall 0 (by decide)) (hall 1 (by decide)))
  clear w8 w9 wn h0 h1 h2 h3 ha hall
  obtain⟨c1,f1⟩:=R8.out.2.2.cell 256 (by simp)
  go_simp
  go_wp2_with fail
  have R8':Hid (RowI (wx.setCell ⟨k8,256,none⟩ (.int .i64 1)) k8 (cntS [])):=Lib.hid (R8.out.2.2.set 256 1)
  have R9':Hid (RowI (wx.setCell ⟨k8,256,none⟩ (.int .i64 1)) k9 (cntD [])):=Lib.hid (row_other R9.out.2.2 RN.out.symm)
  have HB':Hid (Below w.heap.size w (wx.setCell ⟨k8,256,none⟩ (.int .i64 1))):=Lib.hid (wb.out.setCell (p:=⟨k8,256,none⟩) R8.out.1 _)
  obtain⟨w1,hw1⟩:∃ w1,wx.setCell ⟨k8,256,none⟩ (.int .i64 1)=w1:=⟨_,rfl⟩
  rw[hw1]at R8' R9' HB' ⊢
  have HK8:=Lib.hid R8.out.1
  have HK9:=Lib.hid R9.out.1
  clear hw1 c1 f1 R8 R9 wb
  go_loopw [14] (fun i wr=>∃ k:Nat,k≤n∧i= .int .i64 k∧RowI wr k8 (cntS (ts.take k))∧RowI wr k9 (cntD (ts.take k))∧Below w.heap.size w wr) (fun i _=>n - (intOf i).toNat)
  case atStart=>exact⟨0,Nat.zero_le _,rfl,R8'.out,R9'.out,HB'.out⟩
  case round =>
   obtain⟨k,hk,rfl,hr8,hr9,hbl⟩:=hrel
   have H8:=Lib.hid hr8
   have H9:=Lib.hid hr9
   have HB:=Lib.hid hbl
   clear hr8 hr9 hbl
   by_cases hlt:k<n
   ·have q1:decide ((k:Int)<(n:Int))=true:=decide_eq_true (by omega)
    have q1':decide (k<n)=true:=decide_eq_true (by omega)
    have k1:k<ts.length:=by rw[HN.out];exact hlt
    obtain⟨ga,oa,rfl,h1,h2,h3⟩:=HT.out wr HB.out k k1
    have hok:=HTS.out ts[k] (List.getElem_mem _)
    have HSK:=Lib.hid (cntS_take ts k k1)
    have HDK:=Lib.hid (cntD_take ts k k1)
    have his:=HSI.out k
    have hid_:=HDI.out k
    obtain⟨t,ht⟩:∃ t,ts[k]=t:=⟨_,rfl⟩
    rw[ht]at h1 h2 h3 hok HSK HDK
    obtain⟨tb,tl,td⟩:=t
    simp only at h1 h2 h3
    clear ht
    have hsl:(cntS (ts.take k)).length=286:=cntS_len _
    have hdl:(cntD (ts.take k)).length=30:=cntD_len _
    obtain⟨oS,hoS⟩:∃ x,cntS (ts.take k)=x:=⟨_,rfl⟩
    obtain⟨oD,hoD⟩:∃ x,cntD (ts.take k)=x:=⟨_,rfl⟩
    rw[hoS]at H8 HSK his hsl
    rw[hoD]at H9 HDK hid_ hdl
    have hM:(1:Int)+((ts.take k).length:Int)≤1000001:=by
     have:(ts.take k).length≤k:=by rw[List.length_take];omega
     omega
    have his2:InB 1000001 oS:=inB_up his hM
    have hid2:InB 1000001 oD:=inB_up hid_ hM
    clear hoS hoD his hid_ hM
    rcases hok with⟨he,hb0,hb1⟩|⟨hl3,hl258,hd1,hd32⟩
    ·simp only at he hb0 hb1
     subst he
     obtain⟨s,rfl⟩:∃ s:Nat,tb=(s:Int):=⟨tb.toNat,by omega⟩
     have hs256:s<256:=by omega
     have hst:Hid (cntS (ts.take (k+1))=bumpI oS s∧cntD (ts.take (k+1))=oD):=Lib.hid ⟨by rw[HSK.out];simp[stepS],by rw[HDK.out];simp[stepD]⟩
     have hbl:Below wr.heap.size wr (wr.alloc (.cells #[.int .u8 s,.int .i64 0,.int .i64 td] 151)):=(Below.refl _ _).alloc (Nat.le_refl _) _
     have h8:=H8.out.below hbl
     have h9:=H9.out.below hbl
     have HB2:=Lib.hid (HB.out.trans (hbl.mono HB.out.size))
     obtain⟨x,hx,hx0,hxM,cx,fx⟩:=row_cell h8 s (by omega) his2
     have HR8:=Lib.hid (bump_row h8 s x hx)
     have HR9:Hid (RowI ((wr.alloc (.cells #[.int .u8 s,.int .i64 0,.int .i64 td] 151)).setCell ⟨k8,s,none⟩ (.int .i64 (x+1))) k9 oD):=Lib.hid (row_other h9 RN.out.symm)
     clear hbl h8 h9 hx
     have hs0:(0:Int)≤(s:Int):=by omega
     have hs1:(s:Int)<286:=by omega
     go_wp2
     go_roundw
     case rel=>exact⟨k+1,by omega,by go_num,by rw[hst.out.1];exact HR8.out,by rw[hst.out.2];exact HR9.out,HB2.out.setCell (p:=⟨k8,s,none⟩) HK8.out _⟩
     case measure=>simp[intOf];omega
    ·simp only at hl3 hl258 hd1 hd32
     obtain⟨nl,rfl⟩:∃ nl:Nat,tl=(nl:Int):=⟨tl.toNat,by omega⟩
     obtain⟨nd,rfl⟩:∃ nd:Nat,td=(nd:Int):=⟨td.toNat,by omega⟩
     have qz:((nl:Int) == 0)=false:=beq_eq_false_iff_ne.2 (by omega)
     have qz':(nl == 0)=false:=beq_eq_false_iff_ne.2 (by omega)
     obtain⟨sx,hsx⟩:∃ s,257+lenD nl=s:=⟨_,rfl⟩
     obtain⟨sy,hsy⟩:∃ s,dstD nd=s:=⟨_,rfl⟩
     have hsx2:sx<286:=by have:=lenD_lt nl;omega
     have hsy2:sy<30:=by have:=dstD_lt nd;omega
     have hst:Hid (cntS (ts.take (k+1))=bumpI oS sx∧cntD (ts.take (k+1))=bumpI oD sy):=Lib.hid (by
      refine⟨?_,?_⟩
      ·rw[HSK.out]
       unfold stepS
       rw[if_neg (show ¬ ((nl:Int)=0) by omega)]
       simp only[Int.toNat_natCast]
       rw[hsx]
      ·rw[HDK.out]
       unfold stepD
       rw[if_neg (show ¬ ((nl:Int)=0) by omega)]
       simp only[Int.toNat_natCast]
       rw[hsy])
     have HLC:Hid (∀ W,Calls Tryz.prog 114 #[.int .i64 nl] W fun e w'=>e= .returned (.agg #[.int .i64 (sx:Int),.int .i64 ((exLen nl).bits:Int),.int .u64 ((exLen nl).val:Int)])∧Below W.heap.size W w'):=Lib.hid (fun W=>by
      have h:=length_calls nl W (by omega) (by omega)
      rw[show(exLen nl).sym=(sx:Int) by rw[← hsx];rfl]at h
      exact h)
     have HDC:Hid (∀ W,Calls Tryz.prog 115 #[.int .i64 nd] W fun e w'=>e= .returned (.agg #[.int .i64 (sy:Int),.int .i64 ((exDst nd).bits:Int),.int .u64 ((exDst nd).val:Int)])∧Below W.heap.size W w'):=Lib.hid (fun W=>by
      have h:=dist_calls nd W (by omega) (by omega)
      rw[show(exDst nd).sym=(sy:Int) by rw[← hsy,← Nat.zero_add (dstD nd)];rfl]at h
      exact h)
     generalize (exLen nl).bits=u1 at HLC
     generalize (exLen nl).val=u2 at HLC
     generalize (exDst nd).bits=u3 at HDC
     generalize (exDst nd).val=u4 at HDC
     have hbl:Below wr.heap.size wr (wr.alloc (.cells #[.int .u8 tb,.int .i64 nl,.int .i64 nd] 151)):=(Below.refl _ _).alloc (Nat.le_refl _) _
     have HB2:=Lib.hid (HB.out.trans (hbl.mono HB.out.size))
     have H82:=Lib.hid (H8.out.below hbl)
     have H92:=Lib.hid (H9.out.below hbl)
     have hs0:(0:Int)≤(sx:Int):=by omega
     have hs1:(sx:Int)<286:=by omega
     have ht0:(0:Int)≤(sy:Int):=by omega
     have ht1:(sy:Int)<30:=by omega
     go_upto_region 8 with fail
     obtain⟨K,hK⟩:∃ K,wr.heap.size=K:=⟨_,rfl⟩
     obtain⟨W1,hW1⟩:∃ W1,wr.alloc (.cells #[.int .u8 tb,.int .i64 nl,.int .i64 nd] 151)=W1:=⟨_,rfl⟩
     have hKc:W1.heap[K]?=some (.cells #[.int .u8 tb,.int .i64 nl,.int .i64 nd] 151 (0,0)):=by rw[← hW1,← hK];exact World.alloc_heap_new _ _
     have hKS:K<W1.heap.size:=(Array.getElem?_eq_some_iff.1 hKc).1
     have hk8K:k8<K∧k9<K:=by rw[← hK];exact⟨(Array.getElem?_eq_some_iff.1 H8.out).1,(Array.getElem?_eq_some_iff.1 H9.out).1⟩
     rw[hW1]at HB2 H82 H92 ⊢
     rw[hK]
     obtain⟨ck1,fk1⟩:=cell_at hKc 1 _ rfl
     have HKc:=Lib.hid hKc
     clear hW1 hKc hK hbl h1 h2 h3
     go_wp2_with fail
     refine(HLC.out _).mono ?_
     rintro e W2 ⟨rfl,hb2⟩
     have h82:=H82.out.below hb2
     obtain⟨x,hx,hx0,hxM,cx,fx⟩:=row_cell h82 sx (by omega) his2
     have HR8:=Lib.hid (bump_row h82 sx x hx)
     have HR9:Hid (RowI (W2.setCell ⟨k8,sx,none⟩ (.int .i64 (x+1))) k9 oD):=Lib.hid (row_other (H92.out.below hb2) RN.out.symm)
     have HB3:=Lib.hid ((HB2.out.trans (hb2.mono HB2.out.size)).setCell (p:=⟨k8,sx,none⟩) HK8.out (.int .i64 (x+1)))
     have hKc2:(W2.setCell ⟨k8,sx,none⟩ (.int .i64 (x+1))).heap[K]?=some (.cells #[.int .u8 tb,.int .i64 nl,.int .i64 nd] 151 (0,0)):=by
      rw[heap_setCell_other W2 ⟨k8,sx,none⟩ K _ (by show K≠k8;omega)]
      exact(hb2.block K hKS).trans HKc.out
     clear h82 hx hb2 ck1 fk1
     go_upto_region 9 with fail
     obtain⟨W3,hW3⟩:∃ W3,W2.setCell ⟨k8,sx,none⟩ (.int .i64 (x+1))=W3:=⟨_,rfl⟩
     rw[hW3]at HR8 HR9 HB3 hKc2 ⊢
     obtain⟨ck2,fk2⟩:=cell_at hKc2 2 _ rfl
     clear hW3 cx fx hKc2
     go_wp2_with fail
     refine(HDC.out _).mono ?_
     rintro e W4 ⟨rfl,hb4⟩
     have h92:=HR9.out.below hb4
     obtain⟨y,hy,hy0,hyM,cy,fy⟩:=row_cell h92 sy (by omega) hid2
     have HS9:=Lib.hid (bump_row h92 sy y hy)
     have HS8:Hid (RowI (W4.setCell ⟨k9,sy,none⟩ (.int .i64 (y+1))) k8 (bumpI oS sx)):=Lib.hid (row_other (HR8.out.below hb4) RN.out)
     have HB4:=Lib.hid ((HB3.out.trans (hb4.mono HB3.out.size)).setCell (p:=⟨k9,sy,none⟩) HK9.out (.int .i64 (y+1)))
     clear h92 hy hb4 ck2 fk2
     go_wp2
     go_roundw
     case rel=>exact⟨k+1,by omega,by go_num,by rw[hst.out.1];exact HS8.out,by rw[hst.out.2];exact HS9.out,HB4.out⟩
     case measure=>simp[intOf];omega
   ·obtain rfl:k=n:=by omega
    have q1:decide ((k:Int)<(k:Int))=false:=decide_eq_false (by omega)
    have hfin:ts.take k=ts:=List.take_of_length_le (by rw[HN.out];exact Nat.le_refl _)
    rw[hfin]at H8 H9
    clear hfin
    go_wp2
    go_ret2
    exact⟨k8,k9,rfl,H8.out,H9.out,RN.out,HK8.out,HK9.out,HB.out⟩
end Go.Proofs.YtgiogemkomgkhaaGreatDoor.Bk
namespace Go.Proofs.YtgiogemkomgkhaaGreatDoor.Bk
open Go.RowKit Go.Shelf Mg Bw Ri
theorem lens_ok (A:Option Addr) (c:Nat) (cs:List Int) (most:Int) (w:World) (hA:Reads w A cs) (hb:badArg cs most=false) (hm:((usedL cs).length:Int)≤(2:Int) ^ most.toNat) :
  Calls Tryz.prog 118 #[.slice A cs.length c,.int .i64 most] w fun e w'=>∃ B,e= .returned (.tuple #[.slice (some ⟨B,0,none⟩) cs.length cs.length,.int .i64 0])∧Below w.heap.size w w'∧RowI w' B (lensP cs most)∧w.heap.size≤B:=by
 by_cases hN:2≤(usedL cs).length
 ·exact lengths_many A c cs most w hA hb hN hm
 ·exact lengths_few A c cs most w hA hb (by omega) hm
theorem lensP_len (cs:List Int) (most:Int):(lensP cs most).length=cs.length:=by
 unfold lensP
 split
 ·rw[set_len];simp
 ·exact outP_len _ _ _
theorem used_le (cs:List Int):(usedL cs).length≤cs.length:=by
 have h:=(usedL_perm cs).length_eq
 have h2:=idx_len cs cs.length
 omega
def posN (l:List Int):Nat:=l.countP fun x=>decide (0<x)
def zeroAt (l:List Int):Nat:=l.findIdx fun x=> !decide (0<x)
def strictP (cs:List Int) (most:Int):List Int:=if posN (lensP cs most)=1 then(lensP cs most).set (zeroAt (lensP cs most)) 1 else lensP cs most
theorem strictP_len (cs:List Int) (most:Int):(strictP cs most).length=cs.length:=by
 unfold strictP
 split
 ·rw[List.length_set,lensP_len]
 ·exact lensP_len _ _
theorem posN_take (l:List Int) (k:Nat) (h:k<l.length):posN (l.take (k+1))=posN (l.take k)+if 0<l[k] then 1 else 0:=by
 unfold posN
 rw[List.take_succ_eq_append_getElem h,List.countP_append]
 simp[List.countP_cons,List.countP_nil]
theorem posN_le (l:List Int):posN l≤l.length:=List.countP_le_length
theorem zero_lt (l:List Int) (h:posN l=1) (hl:2≤l.length):zeroAt l<l.length:=by
 unfold zeroAt
 rw[List.findIdx_lt_length]
 have h2:posN l≠l.length:=by omega
 unfold posN at h2
 rw[Ne,List.countP_eq_length]at h2
 simp only[Classical.not_forall]at h2
 obtain⟨x,hx,hx2⟩:=h2
 exact⟨x,hx,by simpa using hx2⟩
def FirstZ (l:List Int) (k:Nat) (x:Int):Prop:=(x= -1∧k≤zeroAt l)∨(x=(zeroAt l:Int)∧zeroAt l<k)
theorem firstZ_next (l:List Int) (k:Nat) (hk:k<l.length) (x:Int) (h:FirstZ l k x):FirstZ l (k+1) (if 0<l[k] then x else if x<0 then(k:Int) else x):=by
 rcases h with⟨rfl,h⟩|⟨rfl,h⟩
 ·split
  ·rename_i hp
   refine .inl ⟨rfl,?_⟩
   rcases Nat.lt_or_ge k (zeroAt l) with h1|h1
   ·exact h1
   ·exfalso
    have e:zeroAt l=k:=by omega
    have hz:zeroAt l<l.length:=by omega
    have h3:=List.findIdx_getElem (w:=hz)
    have h4:l[zeroAt l]=l[k]:=by congr 1
    unfold zeroAt at h3 h4
    rw[h4]at h3
    simp[hp]at h3
  ·rename_i hp
   rw[if_pos (by omega)]
   refine .inr ⟨?_,?_⟩
   ·have:zeroAt l≤k:=by
     rcases Nat.lt_or_ge k (zeroAt l) with h1|h1
     ·exfalso
      have h3:=List.not_of_lt_findIdx h1
      simp[hp]at h3
     ·exact h1
    omega
   ·rcases Nat.lt_or_ge k (zeroAt l) with h1|h1
    ·exfalso
     have h3:=List.not_of_lt_findIdx h1
     simp[hp]at h3
    ·omega
 ·refine .inr ⟨?_,by omega⟩
  split
  ·rfl
  ·rw[if_neg (by omega)]
set_option maxHeartbeats 4000000 in
set_option maxRecDepth 100000 in
theorem strict_calls (A:Option Addr) (c:Nat) (cs:List Int) (most:Int) (w:World) (hA:Reads w A cs) (hb:badArg cs most=false) (hm:((usedL cs).length:Int)≤(2:Int) ^ most.toNat) (h2:2≤cs.length) :
  Calls Tryz.prog 117 #[.slice A cs.length c,.int .i64 most] w fun e w'=>∃ B,e= .returned (.slice (some ⟨B,0,none⟩) cs.length cs.length)∧RowI w' B (strictP cs most)∧w.heap.size≤B∧Below w.heap.size w w':=by
 have HL:=Lib.hid (lens_ok A c cs most w hA hb hm)
 have hc288:cs.length≤288:=(badArg_facts hb).1
 obtain⟨l,hl⟩:∃ l,lensP cs most=l:=⟨_,rfl⟩
 have hll:l.length=cs.length:=by rw[← hl];exact lensP_len _ _
 have HS:Hid (strictP cs most=if posN l=1 then l.set (zeroAt l) 1 else l):=Lib.hid (by unfold strictP;rw[hl])
 rw[hl]at HL
 obtain⟨n,hn⟩:∃ n,cs.length=n:=⟨_,rfl⟩
 rw[hn]at HL hll hc288 h2 ⊢
 have HLL:=Lib.hid hll
 clear hl hA hb hm hn
 go_enter Tryz.func117,Tryz.ntmps117
 go_upto_region 2 with(go_at_call 118;refine HL.out.mono ?_;rintro e w1 ⟨B,rfl,hbl,hr,hB⟩)
 have HR:=Lib.hid hr
 have HB:=Lib.hid hbl
 clear hr hbl
 go_wp2
 go_loop [7,8,19] (fun va vf vi=>∃ (k:Nat) (x:Int),k≤n∧vi= .int .i64 k∧va= .int .i64 (posN (l.take k):Nat)∧vf= .int .i64 x∧FirstZ l k x) (fun _ _ vi=>n - (intOf vi).toNat)
 case atStart=>exact⟨0, -1,Nat.zero_le _,rfl,by simp[posN],rfl,.inl ⟨rfl,Nat.zero_le _⟩⟩
 case round =>
  obtain⟨k,x,hk,rfl,rfl,rfl,hf⟩:=hrel
  have HF:=Lib.hid hf
  clear hf
  by_cases hlt:k<n
  ·have q1:decide ((k:Int)<(n:Int))=true:=decide_eq_true (by omega)
   have q1':decide (k<n)=true:=decide_eq_true (by omega)
   have k1:k<l.length:=by rw[hll];exact hlt
   obtain⟨hc1,hf1⟩:=HR.out.cell k k1
   have HPT:=Lib.hid (posN_take l k k1)
   have HFN:=Lib.hid (firstZ_next l k k1 x HF.out)
   have hple:posN (l.take k)≤288:=by have:=posN_le (l.take k);rw[List.length_take]at this;omega
   obtain⟨p,hp⟩:∃ p,posN (l.take k)=p:=⟨_,rfl⟩
   obtain⟨y,hy⟩:∃ y,l[k]=y:=⟨_,rfl⟩
   rw[hp]at HPT hple ⊢
   rw[hy]at hc1 HPT HFN
   clear hp hy hf1
   have hx: -1≤x∧x≤1000:=by
    rcases HF.out with⟨h,_⟩|⟨h,h3⟩<;>omega
   by_cases hpos:0<y
   ·have q2:decide (0<y)=true:=decide_eq_true hpos
    rw[if_pos hpos]at HPT HFN
    go_wp2
    go_round
    case rel=>exact⟨k+1,x,by omega,by go_num,by rw[HPT.out];go_num,rfl,HFN.out⟩
    case measure=>simp[intOf];omega
   ·have q2:decide (0<y)=false:=decide_eq_false hpos
    rw[if_neg hpos]at HPT HFN
    by_cases hxn:x<0
    ·have q3:decide (x<0)=true:=decide_eq_true hxn
     rw[if_pos hxn]at HFN
     go_wp2
     go_round
     case rel=>exact⟨k+1,k,by omega,by go_num,by rw[HPT.out];rfl,rfl,HFN.out⟩
     case measure=>simp[intOf];omega
    ·have q3:decide (x<0)=false:=decide_eq_false hxn
     rw[if_neg hxn]at HFN
     go_wp2
     go_round
     case rel=>exact⟨k+1,x,by omega,by go_num,by rw[HPT.out];rfl,rfl,HFN.out⟩
     case measure=>simp[intOf];omega
  ·obtain rfl:k=n:=by omega
   have q1:decide ((k:Int)<(k:Int))=false:=decide_eq_false (by omega)
   have hfin:l.take k=l:=List.take_of_length_le (by rw[hll];exact Nat.le_refl _)
   rw[hfin]
   obtain⟨p,hp⟩:∃ p,posN l=p:=⟨_,rfl⟩
   rw[hp]at HS ⊢
   have HP:=Lib.hid hp
   clear hfin hp
   by_cases h1:p=1
   ·subst h1
    have hz:=zero_lt l HP.out (by omega)
    have hx:x=(zeroAt l:Int):=by
     rcases HF.out with⟨_,h3⟩|⟨h,_⟩
     ·omega
     ·exact h
    subst hx
    obtain⟨hc1,hf1⟩:=HR.out.cell (zeroAt l) hz
    have HE:Hid (strictP cs most=l.set (zeroAt l) 1):=Lib.hid (by rw[HS.out];rfl)
    have HR2:Hid (RowI (w1.setCell ⟨B,zeroAt l,none⟩ (.int .i64 1)) B (l.set (zeroAt l) 1)):=Lib.hid (HR.out.set (zeroAt l) 1)
    generalize zeroAt l=z at *
    have z1:(0:Int)≤(z:Int):=by omega
    have z2:(z:Int)<(k:Int):=by omega
    go_wp2
    go_ret
    exact⟨B,rfl,by rw[HE.out];exact HR2.out,hB,HB.out.setCell (p:=⟨B,z,none⟩) hB _⟩
   ·have q4:((p:Int) == 1)=false:=beq_eq_false_iff_ne.2 (by omega)
    have q4':(p == 1)=false:=beq_eq_false_iff_ne.2 h1
    have HE:Hid (strictP cs most=l):=Lib.hid (by rw[HS.out,if_neg h1])
    go_wp2
    go_ret
    exact⟨B,rfl,by rw[HE.out];exact HR.out,hB,HB.out⟩
def uptoGo (l:List Int) (least:Nat):Nat→Nat
 | 0=>0
 | n+1=>if least<n+1∧l.getD n 0=0 then uptoGo l least n else n+1
def uptoP (l:List Int) (least:Nat):Nat:=uptoGo l least l.length
theorem uptoGo_le (l:List Int) (least:Nat):∀ n,uptoGo l least n≤n
 | 0=>Nat.le_refl _
 | n+1=>by
  rw[uptoGo]
  split
  ·exact Nat.le_succ_of_le (uptoGo_le l least n)
  ·exact Nat.le_refl _
theorem uptoGo_ge (l:List Int) (least:Nat):∀ n,least≤n→least≤uptoGo l least n
 | 0,h=>h
 | n+1,h=>by
  rw[uptoGo]
  split
  ·rename_i h2
   exact uptoGo_ge l least n (by omega)
  ·exact h
set_option maxHeartbeats 1000000 in
set_option maxRecDepth 100000 in
theorem upto_calls (A:Option Addr) (c:Nat) (l:List Int) (least:Nat) (w:World) (hA:Reads w A l) (hl:l.length≤1000000) :
  Calls Tryz.prog 119 #[.slice A l.length c,.int .i64 least] w fun e w'=>e= .returned (.int .i64 (uptoP l least:Nat))∧w'=w:=by
 have HA:=Lib.hid hA
 obtain⟨n,hn⟩:∃ n,l.length=n:=⟨_,rfl⟩
 have HN:=Lib.hid hn
 obtain⟨R,hR⟩:∃ R,uptoP l least=R:=⟨_,rfl⟩
 have HR:Hid (uptoGo l least n=R):=Lib.hid (by rw[← hR,← hn];rfl)
 rw[hn]at hl ⊢
 rw[hR]
 clear hA hn hR
 go_enter Tryz.func119,Tryz.ntmps119
 go_wp2
 go_loop [5] (fun v=>∃ k:Nat,k≤n∧v= .int .i64 k∧uptoGo l least k=R) (fun v=>(intOf v).toNat)
 case atStart=>exact⟨n,Nat.le_refl _,rfl,HR.out⟩
 case round =>
  obtain⟨k,hk,rfl,hg⟩:=hrel
  have HG:=Lib.hid hg
  clear hg
  by_cases hlt:least<k
  ·have q1:decide ((least:Int)<(k:Int))=true:=decide_eq_true (by omega)
   have q1':decide (least<k)=true:=decide_eq_true hlt
   obtain⟨m,rfl⟩:∃ m,k=m+1:=⟨k - 1,by omega⟩
   have k1:m<l.length:=by rw[HN.out];omega
   obtain⟨g,o,rfl,hcell⟩:=HA.out m k1
   have hgd:l.getD m 0=l[m]:=by simp[List.getD,List.getElem?_eq_getElem k1]
   obtain⟨y,hy⟩:∃ y,l[m]=y:=⟨_,rfl⟩
   rw[hy]at hcell hgd
   have e1:((m+1:Nat):Int) - 1=(m:Int):=by omega
   have e2:(m:Int)+1 - 1=(m:Int):=by omega
   have e3:wrap64 ((m:Int)+1 - 1)=(m:Int):=by unfold wrap64;omega
   have m0:(0:Int)≤(m:Int):=by omega
   have m1:(m:Int)<(n:Int):=by omega
   have hlt1:decide ((least:Int)<(m:Int)+1)=true:=decide_eq_true (by omega)
   clear hy
   by_cases h0:y=0
   ·have q2:(y == 0)=true:=beq_iff_eq.2 h0
    have HG2:Hid (uptoGo l least m=R):=Lib.hid (by
     have h:=HG.out
     rw[uptoGo,if_pos ⟨hlt,by rw[hgd];exact h0⟩]at h
     exact h)
    clear hgd
    go_wp2
    go_round
    case rel=>exact⟨m,by omega,rfl,HG2.out⟩
    case measure=>simp[intOf]
   ·have q2:(y == 0)=false:=beq_eq_false_iff_ne.2 h0
    have HG2:Hid (m+1=R):=Lib.hid (by
     have h:=HG.out
     rw[uptoGo,if_neg (by rw[hgd];exact fun h=>h0 h.2)]at h
     exact h)
    clear hgd
    go_wp2
    go_ret
    exact⟨by rw[← HG2.out];push_cast;rfl,rfl⟩
  ·have q1:decide ((least:Int)<(k:Int))=false:=decide_eq_false (by omega)
   have q1':decide (least<k)=false:=decide_eq_false hlt
   have HG2:Hid (k=R):=Lib.hid (by
    have h:=HG.out
    cases k with
    | zero=>exact h
    | succ m=>rw[uptoGo,if_neg (fun h=>hlt h.1)]at h;exact h)
   go_wp2
   go_ret
   exact⟨by rw[← HG2.out];rfl,rfl⟩
end Go.Proofs.YtgiogemkomgkhaaGreatDoor.Bk
namespace Go.Proofs.YtgiogemkomgkhaaGreatDoor.Bk
open Go.RowKit Go.Shelf Mg Bw Ri
theorem tot_cons (n:Nat) (x:Int) (l:List Int):tot n (x::l)=gN n x+tot n l:=by simp[tot]
theorem tot_append (n:Nat) (a b:List Int):tot n (a++b)=tot n a+tot n b:=by simp[tot]
theorem tot_set (n:Nat) (x:Int):∀ (l:List Int) (i:Nat) (h:i<l.length),tot n (l.set i x)+gN n l[i]=tot n l+gN n x
 | [],_,h=>by simp at h
 | a::l,0,_=>by
  rw[List.set_cons_zero,tot_cons,tot_cons,List.getElem_cons_zero]
  omega
 | a::l,i+1,h=>by
  have:=tot_set n x l i (by simpa using h)
  rw[List.set_cons_succ,tot_cons,tot_cons,List.getElem_cons_succ]
  omega
theorem gN_le (x:Int):gN 15 x≤16384:=by
 unfold gN
 split
 ·rename_i h
  have h1:2 ^ (15 - x.toNat)≤2 ^ 14:=Nat.pow_le_pow_right (by omega) (by omega)
  have h2:(2:Nat) ^ 14=16384:=by decide
  omega
 ·omega
theorem gN_non (n:Nat) (x:Int) (h:¬ 0<x):gN n x=0:=by
 unfold gN
 rw[if_neg (fun h2=>h h2.1)]
theorem posN_cons (x:Int) (l:List Int):posN (x::l)=posN l+if 0<x then 1 else 0:=by
 unfold posN
 rw[List.countP_cons]
 simp
theorem tot_pos:∀ l:List Int,tot 15 l≤posN l*16384
 | []=>by simp[tot]
 | x::l=>by
  have h:=tot_pos l
  have h2:=gN_le x
  rw[tot_cons,posN_cons]
  by_cases hx:0<x
  ·rw[if_pos hx,Nat.add_mul];omega
  ·rw[if_neg hx,gN_non 15 x hx];omega
theorem posN_zeros (n:Nat):posN (List.replicate n 0)=0:=by
 unfold posN
 rw[List.countP_eq_zero]
 intro x hx
 rw[List.eq_of_mem_replicate hx]
 decide
theorem posN_set:∀ (l:List Int) (i:Nat) (h:i<l.length),¬ 0<l[i]→posN (l.set i 1)=posN l+1
 | [],_,h,_=>by simp at h
 | a::l,0,_,hn=>by
  rw[List.getElem_cons_zero]at hn
  rw[List.set_cons_zero,posN_cons,posN_cons,if_pos (by omega),if_neg hn]
 | a::l,i+1,h,hn=>by
  rw[List.getElem_cons_succ]at hn
  rw[List.set_cons_succ,posN_cons,posN_cons,posN_set l i (by simpa using h) hn]
  omega
theorem tot_zeros (m n:Nat):tot m (List.replicate n 0)=0:=by
 unfold tot
 rw[List.map_replicate]
 have:gN m 0=0:=gN_non m 0 (by omega)
 rw[this]
 simp
theorem gN_one:gN 15 1=16384:=by decide +kernel
theorem lens_single (cs:List Int) (most:Int) (hu:(usedL cs).length=1):tot 15 (lensP cs most)=16384∧posN (lensP cs most)=1:=by
 have hlen:=ordP_len cs
 have hlt:=ordP_lt cs
 have hE:lensP cs most=(ordP cs).foldl (fun o s=>o.set s 1) (List.replicate cs.length 0):=by unfold lensP;rw[if_pos (by omega)]
 rcases ho:ordP cs with _|⟨a,_|⟨b,r⟩⟩
 ·rw[ho]at hlen;simp at hlen;omega
 ·have ha:a<cs.length:=hlt a (by rw[ho];simp)
  rw[hE,ho]
  simp only[List.foldl_cons,List.foldl_nil]
  have h1:=tot_set 15 1 (List.replicate cs.length 0) a (by simpa using ha)
  have h2:=posN_set (List.replicate cs.length 0) a (by simpa using ha) (by rw[List.getElem_replicate];omega)
  rw[posN_zeros]at h2
  rw[tot_zeros,List.getElem_replicate,gN_non 15 0 (by omega),gN_one]at h1
  exact⟨by omega,h2⟩
 ·rw[ho]at hlen;simp at hlen;omega
theorem strict_full (cs:List Int) (most:Int) (hb:badArg cs most=false) (hm:((usedL cs).length:Int)≤(2:Int) ^ most.toNat) (hu:1≤(usedL cs).length) (h2:2≤cs.length):tot 15 (strictP cs most)=2 ^ 15:=by
 have h15:(2:Nat) ^ 15=32768:=by decide
 unfold strictP
 by_cases hN:2≤(usedL cs).length
 ·have hf:=lens_full cs most hb hN hm
  have hp:=tot_pos (lensP cs most)
  rw[if_neg (by omega)]
  exact hf
 ·obtain⟨h3,h4⟩:=lens_single cs most (by omega)
  have hl:(lensP cs most).length=cs.length:=Bk.lensP_len cs most
  have hz:=zero_lt (lensP cs most) h4 (by omega)
  have hz2:=List.findIdx_getElem (w:=hz)
  have hn:¬ 0<(lensP cs most)[zeroAt (lensP cs most)]:=by
   have h9:(lensP cs most)[List.findIdx (fun x=> !decide (0<x)) (lensP cs most)]'hz≤0:=by simpa using hz2
   unfold zeroAt
   omega
  have h5:=tot_set 15 1 (lensP cs most) _ hz
  rw[gN_non 15 _ hn,gN_one]at h5
  rw[if_pos h4]
  omega
theorem getD_of {l:List Int} {i:Nat} (h:i<l.length):l.getD i 0=l[i]:=by simp[List.getD,List.getElem?_eq_getElem h]
theorem lens_in (cs:List Int) (most:Int) (hb:badArg cs most=false) (hm:((usedL cs).length:Int)≤(2:Int) ^ most.toNat):∀ x∈lensP cs most,0≤x∧x≤most:=by
 intro x hx
 obtain⟨i,hi,rfl⟩:=List.mem_iff_getElem.1 hx
 have h:=lens_range cs most hb hm i (by rw[Bk.lensP_len]at hi;exact hi)
 rw[getD_of hi]at h
 exact⟨h.1,h.2.1⟩
theorem strict_in (cs:List Int) (most:Int) (hb:badArg cs most=false) (hm:((usedL cs).length:Int)≤(2:Int) ^ most.toNat):∀ x∈strictP cs most,0≤x∧x≤most:=by
 have h1:1≤most:=(badArg_facts hb).2.2.1
 intro x hx
 unfold strictP at hx
 split at hx
 ·rcases List.mem_or_eq_of_mem_set hx with h|h
  ·exact lens_in cs most hb hm x h
  ·omega
 ·exact lens_in cs most hb hm x hx
theorem strict_pos (cs:List Int) (most:Int) (hb:badArg cs most=false) (hm:((usedL cs).length:Int)≤(2:Int) ^ most.toNat) (s:Nat) (hs:s<cs.length) (hp:0<cs.getD s 0):0<(strictP cs most).getD s 0:=by
 have h:=(lens_range cs most hb hm s hs).2.2.2 hp
 unfold strictP
 split
 ·have hl:s<(lensP cs most).length:=by rw[Bk.lensP_len];exact hs
  have hl2:s<((lensP cs most).set (zeroAt (lensP cs most)) 1).length:=by rw[List.length_set];exact hl
  rw[getD_of hl2,List.getElem_set]
  split
  ·omega
  ·rw[getD_of hl]at h
   exact h
 ·exact h
theorem uptoGo_zero (l:List Int) (least:Nat):∀ n j,uptoGo l least n≤j→j<n→l.getD j 0=0
 | 0,_,_,h=>by omega
 | n+1,j,h1,h2=>by
  rw[uptoGo]at h1
  split at h1
  ·rename_i h
   by_cases hj:j=n
   ·rw[hj];exact h.2
   ·exact uptoGo_zero l least n j h1 (by omega)
  ·omega
theorem upto_zero (l:List Int) (least:Nat):∀ x∈l.drop (uptoP l least),x=0:=by
 intro x hx
 obtain⟨i,hi,rfl⟩:=List.mem_iff_getElem.1 hx
 rw[List.getElem_drop]
 rw[List.length_drop]at hi
 rw[← getD_of (by omega)]
 exact uptoGo_zero l least l.length _ (Nat.le_add_right _ _) (by omega)
theorem tot_zero_of (n:Nat):∀ l:List Int,(∀ x∈l,x=0)→tot n l=0
 | [],_=>by simp[tot]
 | x::l,h=>by
  rw[tot_cons,h x List.mem_cons_self,gN_non n 0 (by omega),tot_zero_of n l (fun y hy=>h y (List.mem_cons_of_mem _ hy))]
theorem tot_take (n:Nat) (l:List Int) (least:Nat):tot n (l.take (uptoP l least))=tot n l:=by
 have h:=tot_append n (l.take (uptoP l least)) (l.drop (uptoP l least))
 rw[List.take_append_drop,tot_zero_of n _ (upto_zero l least)]at h
 omega
theorem cntF_take (l:List Int) (least:Nat):cntF (l.take (uptoP l least))=cntF l:=by
 funext m
 unfold cntF
 split
 ·rfl
 ·rename_i hm
  have h:l.count (m:Int)=(l.take (uptoP l least)++l.drop (uptoP l least)).count (m:Int):=by rw[List.take_append_drop]
  rw[h,List.count_append]
  have h0:(l.drop (uptoP l least)).count (m:Int)=0:=by
   rw[List.count_eq_zero]
   intro hmem
   have:=upto_zero l least _ hmem
   omega
  rw[h0]
  rfl
theorem upto_gt (l:List Int) (least s:Nat) (hs:s<l.length) (hp:0<l.getD s 0):s<uptoP l least:=by
 rcases Nat.lt_or_ge s (uptoP l least) with h|h
 ·exact h
 ·have:=uptoGo_zero l least l.length s h hs
  omega
def lsX (ts:List Tok):List Int:=strictP (cntS ts) 15
def dsX (ts:List Tok):List Int:=lensP (cntD ts) 15
def lsD (ts:List Tok):List Int:=(lsX ts).take (uptoP (lsX ts) 257)
def dsD (ts:List Tok):List Int:=(dsX ts).take (uptoP (dsX ts) 1)
def toldD (ts:List Tok):List Ex:=packP (lsD ts++dsD ts)
theorem bad_of {cs:List Int} {most M:Int} (h1:cs.length≤288) (h2:InB M cs) (hM:M≤1099511627776) (h3:1≤most∧most≤15):badArg cs most=false:=by
 unfold badArg
 rw[Bool.or_eq_false_iff,Bool.or_eq_false_iff,Bool.or_eq_false_iff]
 refine⟨⟨⟨decide_eq_false (by omega),?_⟩,decide_eq_false (by omega)⟩,decide_eq_false (by omega)⟩
 rw[List.any_eq_false]
 intro x hx
 have:=h2 x hx
 unfold badB
 simp
 omega
theorem used_pos (cs:List Int) (s:Nat) (hs:s<cs.length) (hp:0<cs.getD s 0):1≤(usedL cs).length:=by
 have h:=(ordP_mem cs s).2 ⟨hs,hp⟩
 rw[← ordP_len]
 exact List.length_pos_of_mem h
theorem p15:(2:Int) ^ (15:Int).toNat=32768:=by decide
theorem p7:(2:Int) ^ (7:Int).toNat=128:=by decide
theorem bumpI_get (o:List Int) (i s:Nat) (h0:∀ x∈o,0≤x):o.getD s 0≤(bumpI o i).getD s 0:=by
 unfold bumpI
 rcases Nat.lt_or_ge s o.length with h|h
 ·have h2:s<(o.set i (o.getD i 0+1)).length:=by rw[List.length_set];exact h
  rw[getD_of h2,List.getElem_set,getD_of h]
  split
  ·rename_i e;subst e;rw[getD_of h];omega
  ·exact Int.le_refl _
 ·have h2:(o.set i (o.getD i 0+1)).length≤s:=by rw[List.length_set];exact h
  rw[show o.getD s 0=0 by simp[List.getD,List.getElem?_eq_none h],List.getD_eq_getElem?_getD,List.getElem?_eq_none h2]
  exact Int.le_refl _
theorem stepS_mono (o:List Int) (t:Tok) (s:Nat) (h0:∀ x∈o,0≤x):o.getD s 0≤(stepS o t).getD s 0:=by
 unfold stepS
 split<;>exact bumpI_get o _ s h0
theorem inB_pos {o:List Int} {M:Int} (h:InB M o):∀ x∈o,0≤x:=fun x hx=>(h x hx).1
theorem foldS_mono (s:Nat):∀ (ts:List Tok) (o:List Int) (M:Int),0≤M→InB M o→o.getD s 0≤(ts.foldl stepS o).getD s 0
 | [],_,_,_,_=>Int.le_refl _
 | t::ts,o,M,hM,h=>Int.le_trans (stepS_mono o t s (inB_pos h)) (foldS_mono s ts _ (M+1) (by omega) (stepS_in h hM t))
theorem cntS_end (ts:List Tok):0<(cntS ts).getD 256 0:=by
 have h:=foldS_mono 256 ts ((List.replicate 286 0).set 256 1) 1 (by omega) (by
  intro x hx
  rcases List.mem_or_eq_of_mem_set hx with h|h
  ·have:=List.eq_of_mem_replicate h;omega
  ·omega)
 have h2:((List.replicate 286 (0:Int)).set 256 1).getD 256 0=1:=by decide +kernel
 rw[h2]at h
 unfold cntS
 omega
theorem cntS_bad (ts:List Tok) (hn:ts.length≤1000000):badArg (cntS ts) 15=false∧((usedL (cntS ts)).length:Int)≤(2:Int) ^ (15:Int).toNat:=by
 refine⟨bad_of (by rw[cntS_len];decide) (cntS_in ts) (by omega) (by decide),?_⟩
 have:=Nat.le_trans (used_le (cntS ts)) (Nat.le_of_eq (cntS_len ts))
 rw[p15]
 omega
theorem cntD_bad (ts:List Tok) (hn:ts.length≤1000000):badArg (cntD ts) 15=false∧((usedL (cntD ts)).length:Int)≤(2:Int) ^ (15:Int).toNat:=by
 refine⟨bad_of (by rw[cntD_len];decide) (cntD_in ts) (by omega) (by decide),?_⟩
 have:=Nat.le_trans (used_le (cntD ts)) (Nat.le_of_eq (cntD_len ts))
 rw[p15]
 omega
theorem lsX_len (ts:List Tok):(lsX ts).length=286:=(strictP_len _ _).trans (cntS_len ts)
theorem dsX_len (ts:List Tok):(dsX ts).length=30:=(Bk.lensP_len _ _).trans (cntD_len ts)
theorem lsD_len (ts:List Tok):(lsD ts).length=uptoP (lsX ts) 257∧257≤uptoP (lsX ts) 257∧uptoP (lsX ts) 257≤286:=by
 have h1:=uptoGo_le (lsX ts) 257 (lsX ts).length
 have h2:=uptoGo_ge (lsX ts) 257 (lsX ts).length (by rw[lsX_len];decide)
 have h3:=lsX_len ts
 unfold lsD uptoP
 rw[List.length_take]
 omega
theorem dsD_len (ts:List Tok):(dsD ts).length=uptoP (dsX ts) 1∧1≤uptoP (dsX ts) 1∧uptoP (dsX ts) 1≤30:=by
 have h1:=uptoGo_le (dsX ts) 1 (dsX ts).length
 have h2:=uptoGo_ge (dsX ts) 1 (dsX ts).length (by rw[dsX_len];decide)
 have h3:=dsX_len ts
 unfold dsD uptoP
 rw[List.length_take]
 omega
theorem lsD_in (ts:List Tok) (hn:ts.length≤1000000):∀ x∈lsD ts,0≤x∧x≤15:=fun x hx=>strict_in _ _ (cntS_bad ts hn).1 (cntS_bad ts hn).2 x (List.mem_of_mem_take hx)
theorem dsD_in (ts:List Tok) (hn:ts.length≤1000000):∀ x∈dsD ts,0≤x∧x≤15:=fun x hx=>lens_in _ _ (cntD_bad ts hn).1 (cntD_bad ts hn).2 x (List.mem_of_mem_take hx)
theorem lsD_tot (ts:List Tok) (hn:ts.length≤1000000):tot 15 (lsD ts)=2 ^ 15:=by
 unfold lsD
 rw[tot_take]
 exact strict_full _ _ (cntS_bad ts hn).1 (cntS_bad ts hn).2 (used_pos _ 256 (by rw[cntS_len];decide) (cntS_end ts)) (by rw[cntS_len];decide)
theorem lsD_ok (ts:List Tok) (hn:ts.length≤1000000):(∀ n,n≤15→0≤leftP (cntF (lsD ts)) n)∧codeOk (lsD ts) false:=by
 have h:=left_full _ (lsD_tot ts hn)
 exact⟨h.2,.inl h.1⟩
theorem dsD_ok (ts:List Tok) (hn:ts.length≤1000000):(∀ n,n≤15→0≤leftP (cntF (dsD ts)) n)∧codeOk (dsD ts) true:=by
 unfold codeOk dsD
 rw[cntF_take]
 by_cases hN:2≤(usedL (cntD ts)).length
 ·have h:=left_full _ (lens_full _ _ (cntD_bad ts hn).1 hN (cntD_bad ts hn).2)
  exact⟨h.2,.inl h.1⟩
 ·obtain⟨h1,h2,h3⟩:=lens_one (cntD ts) 15 hN
  exact⟨h1,.inr ⟨h2,rfl,h3⟩⟩
def exOk (x:Ex):Prop:=0≤x.sym∧x.sym≤18∧x.bits≤7∧x.val<128
theorem stepP_ok (v:Int) (hv:0≤v∧v≤15) (n:Nat):exOk (stepP v n).1:=by
 unfold stepP againP
 split
 ·unfold exOk;simp only[Option.getD_some];omega
 ·split
  ·unfold exOk;simp only[Option.getD_some];omega
  ·split
   ·unfold exOk;simp only[Option.getD_some];omega
   ·unfold exOk;simp only[Option.getD_none];omega
theorem rest_ok (v:Int) (hv:0≤v∧v≤15):∀ N n,n≤N→(∀ x∈restP v n,exOk x)∧(restP v n).length≤n
 | 0,n,h=>by
  obtain rfl:n=0:=by omega
  rw[restP_zero]
  exact⟨fun x hx=>(by cases hx),Nat.le_refl _⟩
 | N+1,n,h=>by
  by_cases h0:n=0
  ·subst h0
   rw[restP_zero]
   exact⟨fun x hx=>(by cases hx),Nat.le_refl _⟩
  ·have hp:=stepP_pos v n
   have hl:=stepP_le v n (by omega)
   obtain⟨h1,h2⟩:=rest_ok v hv N (n - (stepP v n).2) (by omega)
   rw[restP_pos v n h0]
   refine⟨fun x hx=>?_,by rw[List.length_cons];omega⟩
   rcases List.mem_cons.1 hx with rfl|hx
   ·exact stepP_ok v hv n
   ·exact h1 x hx
theorem pack_ok:∀ N (l:List Int),l.length≤N→(∀ x∈l,0≤x∧x≤15)→(∀ x∈packP l,exOk x)∧(packP l).length≤l.length
 | _,[],_,_=>by
  rw[packP_nil]
  exact⟨fun x hx=>(by cases hx),Nat.le_refl _⟩
 | 0,v::t,h,_=>by simp at h
 | N+1,v::t,h,hx=>by
  have hv:=hx v List.mem_cons_self
  have hle:=leadP_le v t
  rw[List.length_cons]at h
  obtain⟨h1,h2⟩:=pack_ok N (t.drop (leadP v t)) (by rw[List.length_drop];omega) (fun x hm=>hx x (List.mem_cons_of_mem _ (List.mem_of_mem_drop hm)))
  rw[List.length_drop]at h2
  rw[packP_cons]
  by_cases h0:v=0
  ·obtain⟨h3,h4⟩:=rest_ok v hv _ (leadP v t+1) (Nat.le_refl _)
   rw[if_pos h0]
   refine⟨fun x hm=>?_,by rw[List.length_append,List.length_cons];omega⟩
   rcases List.mem_append.1 hm with hm|hm
   ·exact h3 x hm
   ·exact h1 x hm
  ·obtain⟨h3,h4⟩:=rest_ok v hv _ (leadP v t) (Nat.le_refl _)
   rw[if_neg h0]
   refine⟨fun x hm=>?_,by rw[List.length_append,List.length_cons,List.length_cons];omega⟩
   rcases List.mem_append.1 hm with hm|hm
   ·rcases List.mem_cons.1 hm with rfl|hm
    ·unfold exOk;simp only;omega
    ·exact h3 x hm
   ·exact h1 x hm
theorem told_in (ts:List Tok) (hn:ts.length≤1000000):∀ x∈lsD ts++dsD ts,0≤x∧x≤15:=fun x hx=>by
 rcases List.mem_append.1 hx with h|h
 ·exact lsD_in ts hn x h
 ·exact dsD_in ts hn x h
theorem told_packR (ts:List Tok) (hn:ts.length≤1000000):packR (lsD ts++dsD ts)=toldD ts:=by
 unfold packR toldD
 have:(lsD ts++dsD ts).any bad15=false:=by
  rw[List.any_eq_false]
  intro x hx
  have:=told_in ts hn x hx
  unfold bad15
  simp
  omega
 rw[this]
 rfl
theorem told_ok (ts:List Tok) (hn:ts.length≤1000000):(∀ x∈toldD ts,exOk x)∧(toldD ts).length≤316∧1≤(toldD ts).length:=by
 obtain⟨h1,h2⟩:=pack_ok _ (lsD ts++dsD ts) (Nat.le_refl _) (told_in ts hn)
 have h3:=lsD_len ts
 have h4:=dsD_len ts
 rw[List.length_append,h3.1,h4.1]at h2
 refine⟨h1,by unfold toldD;omega,?_⟩
 unfold toldD
 rcases hc:lsD ts++dsD ts with _|⟨v,t⟩
 ·have h5:(lsD ts).length+(dsD ts).length=0:=by rw[← List.length_append,hc];rfl
  omega
 ·rw[packP_cons]
  by_cases h0:v=0
  ·rw[if_pos h0,restP_pos _ _ (by omega),List.cons_append,List.length_cons]
   omega
  ·rw[if_neg h0,List.cons_append,List.length_cons]
   omega
def oftenP (l:List Ex):List Int:=l.foldl (fun o x=>bumpI o x.sym.toNat) (List.replicate 19 0)
theorem oftenF_len:∀ (l:List Ex) (o:List Int),(l.foldl (fun o x=>bumpI o x.sym.toNat) o).length=o.length
 | [],_=>rfl
 | x::l,o=>(oftenF_len l _).trans (bumpI_len _ _)
theorem often_len (l:List Ex):(oftenP l).length=19:=(oftenF_len l _).trans (by rw[List.length_replicate])
theorem often_take (l:List Ex) (k:Nat) (h:k<l.length):oftenP (l.take (k+1))=bumpI (oftenP (l.take k)) l[k].sym.toNat:=by
 rw[List.take_succ_eq_append_getElem h]
 unfold oftenP
 rw[List.foldl_append]
 rfl
theorem oftenF_in:∀ (l:List Ex) (o:List Int) (M:Int),0≤M→InB M o→InB (M+l.length) (l.foldl (fun o x=>bumpI o x.sym.toNat) o)
 | [],o,M,hM,h=>by simpa using h
 | x::l,o,M,hM,h=>by
  have:=oftenF_in l (bumpI o x.sym.toNat) (M+1) (by omega) (bumpI_in h hM _)
  rw[List.foldl_cons,List.length_cons]
  exact inB_up this (by omega)
theorem often_in (l:List Ex):InB (0+l.length) (oftenP l):=oftenF_in l _ 0 (by omega) (by
 intro x hx
 have:=List.eq_of_mem_replicate hx
 omega)
theorem oftenF_mono (s:Nat):∀ (l:List Ex) (o:List Int) (M:Int),0≤M→InB M o→o.getD s 0≤(l.foldl (fun o x=>bumpI o x.sym.toNat) o).getD s 0
 | [],_,_,_,_=>Int.le_refl _
 | x::l,o,M,hM,h=>Int.le_trans (bumpI_get o _ s (inB_pos h)) (oftenF_mono s l _ (M+1) (by omega) (bumpI_in h hM _))
theorem often_pos (l:List Ex) (x:Ex) (hx:x∈l) (h0:0≤x.sym) (h:x.sym≤18):0<(oftenP l).getD x.sym.toNat 0:=by
 obtain⟨a,b,rfl⟩:=List.append_of_mem hx
 unfold oftenP
 rw[List.foldl_append,List.foldl_cons]
 have hl:(a.foldl (fun o x=>bumpI o x.sym.toNat) (List.replicate 19 0)).length=19:=by rw[oftenF_len,List.length_replicate]
 have hin:=oftenF_in a (List.replicate 19 0) 0 (by omega) (by
  intro y hy
  have:=List.eq_of_mem_replicate hy
  omega)
 generalize a.foldl (fun o x=>bumpI o x.sym.toNat) (List.replicate 19 0)=o at *
 refine Int.lt_of_lt_of_le ?_ (oftenF_mono _ b _ (0+a.length+1) (by omega) (bumpI_in hin (by omega) _))
 have hs:x.sym.toNat<o.length:=by omega
 have hs2:x.sym.toNat<(o.set x.sym.toNat (o.getD x.sym.toNat 0+1)).length:=by rw[List.length_set];exact hs
 unfold bumpI
 rw[getD_of hs2,List.getElem_set,if_pos rfl,getD_of hs]
 have:=hin _ (List.getElem_mem hs)
 omega
def tellD (ts:List Tok):List Int:=strictP (oftenP (toldD ts)) 7
theorem often_bad (ts:List Tok) (hn:ts.length≤1000000):badArg (oftenP (toldD ts)) 7=false∧((usedL (oftenP (toldD ts))).length:Int)≤(2:Int) ^ (7:Int).toNat:=by
 have h1:=(told_ok ts hn).2.1
 refine⟨bad_of (by rw[often_len];decide) (often_in _) (by omega) (by decide),?_⟩
 have:=Nat.le_trans (used_le (oftenP (toldD ts))) (Nat.le_of_eq (often_len (toldD ts)))
 rw[p7]
 omega
theorem tellD_len (ts:List Tok):(tellD ts).length=19:=(strictP_len _ _).trans (often_len _)
theorem tellD_in (ts:List Tok) (hn:ts.length≤1000000):∀ x∈tellD ts,0≤x∧x≤7:=strict_in _ _ (often_bad ts hn).1 (often_bad ts hn).2
theorem tellD_ok (ts:List Tok) (hn:ts.length≤1000000):(∀ n,n≤15→0≤leftP (cntF (tellD ts)) n)∧codeOk (tellD ts) false:=by
 obtain⟨h1, -,h3⟩:=told_ok ts hn
 have hx:(toldD ts)[0]∈toldD ts:=List.getElem_mem _
 have h4:=h1 _ hx
 have hp:=often_pos (toldD ts) _ hx h4.1 h4.2.1
 have hu:=used_pos (oftenP (toldD ts)) (toldD ts)[0].sym.toNat (by rw[often_len];have:=h4.2.1;omega) hp
 have h:=left_full _ (strict_full _ 7 (often_bad ts hn).1 (often_bad ts hn).2 hu (by rw[often_len];decide))
 exact⟨h.2,.inl h.1⟩
def ordT:List Nat:= [16,17,18,0,8,7,9,6,10,5,11,4,12,3,13,2,14,1,15]
def tellGo (z:List Int):Nat→Nat
 | 0=>0
 | n+1=>if 4<n+1∧z.getD (ordT.getD n 0) 0=0 then tellGo z n else n+1
def tellC (z:List Int):Nat:=tellGo z 19
theorem tellGo_le (z:List Int):∀ n,tellGo z n≤n
 | 0=>Nat.le_refl _
 | n+1=>by
  rw[tellGo]
  split
  ·exact Nat.le_succ_of_le (tellGo_le z n)
  ·exact Nat.le_refl _
theorem tellGo_ge (z:List Int):∀ n,4≤n→4≤tellGo z n
 | 0,h=>h
 | n+1,h=>by
  rw[tellGo]
  split
  ·rename_i h2
   exact tellGo_ge z n (by omega)
  ·exact h
end Go.Proofs.YtgiogemkomgkhaaGreatDoor.Bk
namespace Go.Proofs.YtgiogemkomgkhaaGreatDoor.Bk
open Go.RowKit Go.Shelf Mg Bw Ri
def OrdT (w:World):Prop:=∃ cs t fr,w.heap[4]?=some (.cells cs t fr)∧∀ i,i<19→cs[i]?=some (.int .i64 (ordT.getD i 0:Nat))
theorem OrdT.cell {w:World} (h:OrdT w) (i:Nat) (hi:i<19):w.cell? ⟨4,i,none⟩=some (.int .i64 (ordT.getD i 0:Nat)):=by
 obtain⟨cs,t,fr,h1,h2⟩:=h
 unfold World.cell?
 simp only
 rw[h1]
 exact h2 i hi
theorem OrdT.lt {w:World} (h:OrdT w):4<w.heap.size:=by
 obtain⟨cs,t,fr,h1,h2⟩:=h
 exact(Array.getElem?_eq_some_iff.1 h1).1
theorem OrdT.below {w w':World} {b:Nat} (h:OrdT w) (hb:Below b w w') (hl:w.heap.size≤b):OrdT w':=by
 obtain⟨cs,t,fr,h1,h2⟩:=h
 exact⟨cs,t,fr,(hb.block _ (Nat.lt_of_lt_of_le (Array.getElem?_eq_some_iff.1 h1).1 hl)).trans h1,h2⟩
theorem OrdT.grown {w w':World} {G:Nat} (h:OrdT w) (hg:w.grownBy w' (some G)) (hG:4≠G):OrdT w':=by
 obtain⟨cs,t,fr,h1,h2⟩:=h
 exact⟨cs,t,fr,(hg.block _ (Array.getElem?_eq_some_iff.1 h1).1 (fun e=>hG (by cases e;rfl))).trans h1,h2⟩
def cellN (w:World) (a:Addr):Nat:=match w.cell? a with
 | some v=>(intOf v).toNat
 | none=>0
theorem cellN_of {w:World} {a:Addr} {k:Nat} (h:w.cell? a=some (.int .i64 k)):cellN w a=k:=by
 unfold cellN
 rw[h]
 simp[intOf]
theorem ordT_lt:∀ i,i<19→ordT.getD i 0<19:=by decide
theorem canon_grown {w w':World} {b g G:Nat} {ls:List Int} {cs:Array Value} {fr:Nat×Nat} (h:CanonAt w b g ls) (hG:w.heap[G]?=some (.cells cs 183 fr)) (hg:w.grownBy w' (some G)):CanonAt w' b g ls:=h.heap (fun k _ hk ⟨cs2,T,fr2,hc,hT⟩=>by
 refine hg.block k hk (fun e=>?_)
 cases e
 rw[hG]at hc
 cases hc
 rcases hT with h|h|h<;>exact absurd h (by decide))
theorem row_grown {w w':World} {B G:Nat} {o:List Int} (h:RowI w B o) (hg:w.grownBy w' (some G)) (hne:B≠G):RowI w' B o:=h.grown hg (fun e=>hne (by cases e;rfl))
theorem rdi_take {w:World} {B a:Nat} {o:List Int} (h:RowI w B o):RdI w B 0 (o.take a):=fun j hj=>by
 rw[List.length_take]at hj
 rw[Nat.zero_add,(h.cell j (by omega)).1,List.getElem_take]
theorem rd_row {w:World} {B a c:Nat} {o:List Int} (h:RowI w B o) (ha:a≤o.length) (hc:a≤c):Rd w 3 1 (.slice (some ⟨B,0,none⟩) a c) a (intsV (o.take a)):=by
 refine⟨by unfold intsV;rw[List.length_map,List.length_take];omega,B,0,c,_,_,rfl,hc,h,fun j hj=>?_⟩
 unfold intsV at hj ⊢
 rw[List.length_map,List.length_take]at hj
 rw[Nat.zero_add,List.getElem_map,List.getElem_take]
 unfold cellsI
 simp only[List.getElem?_toArray,List.getElem?_map]
 rw[List.getElem?_eq_getElem (by omega)]
 rfl
theorem exs_len:∀ l:List Ex,(exsC l).length=l.length*3
 | []=>rfl
 | x::l=>by
  have:exsC (x::l)=exC x++exsC l:=by simp[exsC]
  rw[this,List.length_append,exs_len l,List.length_cons]
  simp only[exC,List.length_cons,List.length_nil]
  omega
theorem exs_get:∀ (l:List Ex) (k:Nat) (h:k<l.length),(exsC l)[k*3]?=some (.int .i64 l[k].sym)∧(exsC l)[k*3+1]?=some (.int .i64 (l[k].bits:Int))∧(exsC l)[k*3+2]?=some (.int .u64 (l[k].val:Int))
 | [],_,h=>by simp at h
 | x::l,0,_=>by
  have:exsC (x::l)=exC x++exsC l:=by simp[exsC]
  rw[this]
  exact⟨rfl,rfl,rfl⟩
 | x::l,k+1,h=>by
  have:exsC (x::l)=exC x++exsC l:=by simp[exsC]
  have ih:=exs_get l k (by simpa using h)
  have key:∀ j,(exsC (x::l))[j+3]?=(exsC l)[j]?:=fun j=>by
   rw[this,List.getElem?_append_right (by simp[exC])]
   simp[exC]
  rw[show(k+1)*3=k*3+3 by omega,show k*3+3+1=k*3+1+3 by omega,show k*3+3+2=k*3+2+3 by omega,key,key,key]
  exact ih
theorem exs_cells {w:World} {g n c:Nat} {l:List Ex} (h:Rd w 188 3 (.slice (some ⟨g,0,none⟩) n c) n (exsC l)) (k:Nat) (hk:k<l.length) :
  w.cell? ⟨g,k*3,none⟩=some (.int .i64 l[k].sym)∧w.cell? ⟨g,k*3+1,none⟩=some (.int .i64 (l[k].bits:Int))∧w.cell? ⟨g,k*3+2,none⟩=some (.int .u64 (l[k].val:Int)):=by
 obtain⟨g',o',c',e, -,hc⟩:=h.cell
 cases e
 have h1:=exs_get l k hk
 have hl:=exs_len l
 have key:∀ (j:Nat) (v:Value),(exsC l)[j]?=some v→w.cell? ⟨g,j,none⟩=some v:=fun j v hv=>by
  obtain⟨hj,e⟩:=List.getElem?_eq_some_iff.1 hv
  have:=hc j hj
  rw[Nat.zero_add,e]at this
  exact this
 exact⟨key _ _ h1.1,key _ _ h1.2.1,key _ _ h1.2.2⟩
theorem grown_setG (w:World) (G i:Nat) (v:Value):w.grownBy (w.setCell ⟨G,i,none⟩ v) (some G):=Mg.grown_set w G i v
structure DynAt (w:World) (b g:Nat) (ts:List Tok):Prop where
 ex:∃ gs gd gt gT cT:Nat,w.heap[g]?=some (.cells #[.pointer (some ⟨gs,0,none⟩),.pointer (some ⟨gd,0,none⟩),.pointer (some ⟨gt,0,none⟩),.slice (some ⟨gT,0,none⟩) (toldD ts).length cT,.int .i64 (lsD ts).length,.int .i64 (dsD ts).length,.int .i64 (tellC (tellD ts))] 183 (0,0)) ∧
  CanonAt w b gs (lsD ts)∧CanonAt w b gd (dsD ts)∧CanonAt w b gt (tellD ts)∧Rd w 188 3 (.slice (some ⟨gT,0,none⟩) (toldD ts).length cT) (toldD ts).length (exsC (toldD ts))∧b≤g∧b≤gT
theorem DynAt.coder {w:World} {b g:Nat} {ts:List Tok} (h:DynAt w b g ts):CoderAt w b g (lsD ts) (dsD ts):=by
 obtain⟨gs,gd,gt,gT,cT,h1,h2,h3,h4,h5,h6,h7⟩:=h.ex
 exact⟨_,gs,gd,h1,rfl,rfl,h6,h2,h3⟩
set_option maxHeartbeats 8000000 in
set_option maxRecDepth 100000 in
theorem dyn_calls (A:Option Addr) (c:Nat) (ts:List Tok) (w:World) (hA:TokAt w A ts) (hts:∀ t∈ts,tokIn t) (hn:ts.length≤1000000) (hO:OrdT w) :
  Calls Tryz.prog 95 #[.slice A ts.length c] w fun e w'=>∃ g,e= .returned (.pointer (some ⟨g,0,none⟩))∧DynAt w' w.heap.size g ts∧Below w.heap.size w w':=by
 have HC:=Lib.hid (counts_calls A c ts w hA hts hn)
 have HO:=Lib.hid hO
 have HXL:=Lib.hid (lsX_len ts)
 have HYL:=Lib.hid (dsX_len ts)
 have hl1:=lsD_len ts
 have hl2:=dsD_len ts
 have HLI:=Lib.hid (lsD_in ts hn)
 have HDI:=Lib.hid (dsD_in ts hn)
 have HLO:=Lib.hid (lsD_ok ts hn)
 have HDO:=Lib.hid (dsD_ok ts hn)
 have HSB:=Lib.hid (cntS_bad ts hn)
 have HDB:=Lib.hid (cntD_bad ts hn)
 obtain⟨a,ha⟩:∃ a,uptoP (lsX ts) 257=a:=⟨_,rfl⟩
 obtain⟨d,hd⟩:∃ d,uptoP (dsX ts) 1=d:=⟨_,rfl⟩
 have HA':=Lib.hid ha
 have HD':=Lib.hid hd
 have HLS:Hid (lsD ts=(lsX ts).take a):=Lib.hid (by unfold lsD;rw[ha])
 have HDS:Hid (dsD ts=(dsX ts).take d):=Lib.hid (by unfold dsD;rw[hd])
 rw[ha]at hl1
 rw[hd]at hl2
 obtain⟨hla,a257,a286⟩:=hl1
 obtain⟨hld,d1,d30⟩:=hl2
 have HLA:=Lib.hid hla
 have HLD:=Lib.hid hld
 have q1:(0:Int)≤(a:Int):=by omega
 have q2:(a:Int)≤286:=by omega
 have q3:(0:Int)≤(d:Int):=by omega
 have q4:(d:Int)≤30:=by omega
 obtain⟨n,hn1⟩:∃ n,ts.length=n:=⟨_,rfl⟩
 have HN:=Lib.hid hn1
 rw[hn1]at HC ⊢
 clear hA hts hO ha hd hla hld hn1
 go_enter Tryz.func95,Tryz.ntmps95
 go_upto_region 2 with(go_at_call 116;refine HC.out.mono ?_;rintro e w1 ⟨B1,B2,rfl,hr1,hr2,hne,hb1,hb2,hbl⟩)
 have HB1:=Lib.hid hbl
 have H2:=Lib.hid hr2
 have HST:=Lib.hid (strict_calls (some ⟨B1,0,none⟩) 286 (cntS ts) 15 w1 hr1.reads HSB.out.1 HSB.out.2 (by rw[cntS_len];decide))
 rw[cntS_len]at HST
 clear hbl hr2 hr1 HC
 go_upto_region 3 with(go_at_call 117;refine HST.out.mono ?_;rintro e w2 ⟨Bx,rfl,hrx,hbx,hbl⟩)
 have HB2:=Lib.hid (HB1.out.trans (hbl.mono HB1.out.size))
 have HX2:Hid (RowI w2 Bx (lsX ts)):=Lib.hid hrx
 have HLN:=Lib.hid (lens_ok (some ⟨B2,0,none⟩) 30 (cntD ts) 15 w2 (H2.out.below hbl).reads HDB.out.1 HDB.out.2)
 rw[cntD_len]at HLN
 have hbx0:w.heap.size≤Bx:=Nat.le_trans HB1.out.size hbx
 clear hbl hrx H2 HST HB1 hbx
 go_upto_region 4 with(go_at_call 118;refine HLN.out.mono ?_;rintro e w3 ⟨By,rfl,hbl,hry,hby⟩)
 have HB3:=Lib.hid (HB2.out.trans (hbl.mono HB2.out.size))
 have HY3:Hid (RowI w3 By (dsX ts)):=Lib.hid hry
 have HX3:=Lib.hid (HX2.out.below hbl)
 have hby0:w.heap.size≤By:=Nat.le_trans HB2.out.size hby
 have HUX:=Lib.hid (fun W (h:RowI W Bx (lsX ts))=>upto_calls (some ⟨Bx,0,none⟩) 286 (lsX ts) 257 W h.reads (by rw[HXL.out];decide))
 have HUY:=Lib.hid (fun W (h:RowI W By (dsX ts))=>upto_calls (some ⟨By,0,none⟩) 30 (dsX ts) 1 W h.reads (by rw[HYL.out];decide))
 rw[HXL.out,HA'.out]at HUX
 rw[HYL.out,HD'.out]at HUY
 clear hbl hry HX2 HB2 HLN hby
 go_wp2_with fail
 refine(HUX.out _ HX3.out).mono ?_
 rintro e w4 ⟨rfl,rfl⟩
 go_wp2_with fail
 refine(HUY.out _ HY3.out).mono ?_
 rintro e w5 ⟨rfl,rfl⟩
 go_upto_region 5 with fail
 have HGS:=Lib.hid HB3.out.size
 obtain⟨G,hG⟩:∃ G,w5.heap.size=G:=⟨_,rfl⟩
 obtain⟨W5,hW5⟩:∃ W5,w5.alloc (.cells #[.pointer none,.pointer none,.pointer none,.slice none 0 0,.int .i64 a,.int .i64 d,.int .i64 0] 183)=W5:=⟨_,rfl⟩
 have hbl:Below w5.heap.size w5 W5:=by rw[← hW5];exact(Below.refl _ _).alloc (Nat.le_refl _) _
 have hGc:W5.heap[G]?=some (.cells #[.pointer none,.pointer none,.pointer none,.slice none 0 0,.int .i64 a,.int .i64 d,.int .i64 0] 183 (0,0)):=by rw[← hW5,← hG];exact World.alloc_heap_new _ _
 have hxG:Bx≠G:=by rw[← hG];exact Nat.ne_of_lt (Array.getElem?_eq_some_iff.1 HX3.out).1
 have hyG:By≠G:=by rw[← hG];exact Nat.ne_of_lt (Array.getElem?_eq_some_iff.1 HY3.out).1
 have hwG:w.heap.size≤G:=by rw[← hG];exact HGS.out
 have HB5:=Lib.hid (HB3.out.trans (hbl.mono HB3.out.size))
 have HX5:=Lib.hid (HX3.out.below hbl)
 have HY5:=Lib.hid (HY3.out.below hbl)
 rw[hW5,hG]
 obtain⟨c4,f4⟩:=cell_at hGc 4 _ rfl
 obtain⟨c5,f5⟩:=cell_at hGc 5 _ rfl
 have HGc:=Lib.hid hGc
 clear hW5 hG hbl hGc HX3 HY3 HB3 f4 f5 HUX HUY HGS
 go_quiet (fail)
 generalize hW:World.drewN _ _=W6
 have HB6:Hid (Below w.heap.size w W6):=Lib.hid (by rw[← hW];exact Go.below_drewN HB5.out _)
 have HX6:Hid (RowI W6 Bx (lsX ts)):=Lib.hid (by rw[← hW];exact RowI.below HX5.out (Go.below_drewN (Below.refl _ _) _))
 have HY6:Hid (RowI W6 By (dsX ts)):=Lib.hid (by rw[← hW];exact RowI.below HY5.out (Go.below_drewN (Below.refl _ _) _))
 have hGc:W6.heap[G]?=some (.cells #[.pointer none,.pointer none,.pointer none,.slice none 0 0,.int .i64 a,.int .i64 d,.int .i64 0] 183 (0,0)):=by rw[← hW,heap_drewN];exact HGc.out
 have HG6:=Lib.hid hGc
 clear hW c4 c5 HB5 HX5 HY5 HGc hGc
 go_upto_region 6 with fail
 have HN6:=Lib.hid (newx_calls Bx 0 a 286 (lsD ts) false W6 HLA.out (by omega) (by rw[HLS.out];exact rdi_take HX6.out) HLI.out HLO.out.1 HLO.out.2)
 go_wp2_with fail
 refine HN6.out.mono ?_
 rintro e w7 ⟨gs,rfl,hcs,hbb⟩
 have hz:=(hbb.block G (Array.getElem?_eq_some_iff.1 HG6.out).1).trans HG6.out
 obtain⟨c0,f0⟩:=cell_at hz 0 _ rfl
 have HZ:=Lib.hid hz
 have HCS:=Lib.hid (canon_mono hcs HB6.out.size)
 have HB7:=Lib.hid (HB6.out.trans (hbb.mono HB6.out.size))
 have HX7:=Lib.hid (HX6.out.below hbb)
 have HY7:=Lib.hid (HY6.out.below hbb)
 clear hcs hbb hz HB6 HX6 HY6 HG6 HN6
 go_upto_region 7 with fail
 have hg:=grown_setG w7 G 0 (.pointer (some ⟨gs,0,none⟩))
 have HG8:=Lib.hid (heap_setCell_same w7 G 0 _ _ (.pointer (some ⟨gs,0,none⟩)) HZ.out)
 have HCS8:=Lib.hid (canon_grown HCS.out HZ.out hg)
 have HX8:=Lib.hid (row_grown HX7.out hg hxG)
 have HY8:=Lib.hid (row_grown HY7.out hg hyG)
 have HB8:=Lib.hid (HB7.out.setCell (p:=⟨G,0,none⟩) hwG (.pointer (some ⟨gs,0,none⟩)))
 obtain⟨W8,hW8⟩:∃ W8,w7.setCell ⟨G,0,none⟩ (.pointer (some ⟨gs,0,none⟩))=W8:=⟨_,rfl⟩
 rw[hW8]at HG8 HCS8 HX8 HY8 HB8 ⊢
 clear hg hW8 HZ HCS HB7 HX7 HY7 c0 f0
 have HN8:=Lib.hid (newx_calls By 0 d 30 (dsD ts) true W8 HLD.out (by omega) (by rw[HDS.out];exact rdi_take HY8.out) HDI.out HDO.out.1 HDO.out.2)
 go_wp2_with fail
 refine HN8.out.mono ?_
 rintro e w9 ⟨gd,rfl,hcs,hbb⟩
 have hz:=(hbb.block G (Array.getElem?_eq_some_iff.1 HG8.out).1).trans HG8.out
 obtain⟨c0,f0⟩:=cell_at hz 1 _ rfl
 have HZ:=Lib.hid hz
 have HCD:=Lib.hid (canon_mono hcs HB8.out.size)
 have HCS:=Lib.hid (HCS8.out.below hbb)
 have HB9:=Lib.hid (HB8.out.trans (hbb.mono HB8.out.size))
 have HX9:=Lib.hid (HX8.out.below hbb)
 have HY9:=Lib.hid (HY8.out.below hbb)
 clear hcs hbb hz HB8 HX8 HY8 HG8 HN8 HCS8
 go_upto_region 8 with fail
 have hg:=grown_setG w9 G 1 (.pointer (some ⟨gd,0,none⟩))
 have HG10:=Lib.hid (heap_setCell_same w9 G 1 _ _ (.pointer (some ⟨gd,0,none⟩)) HZ.out)
 have HCS10:=Lib.hid (canon_grown HCS.out HZ.out hg)
 have HCD10:=Lib.hid (canon_grown HCD.out HZ.out hg)
 have HX10:=Lib.hid (row_grown HX9.out hg hxG)
 have HY10:=Lib.hid (row_grown HY9.out hg hyG)
 have HB10:=Lib.hid (HB9.out.setCell (p:=⟨G,1,none⟩) hwG (.pointer (some ⟨gd,0,none⟩)))
 obtain⟨W10,hW10⟩:∃ W10,w9.setCell ⟨G,1,none⟩ (.pointer (some ⟨gd,0,none⟩))=W10:=⟨_,rfl⟩
 rw[hW10]at HG10 HCS10 HCD10 HX10 HY10 HB10 ⊢
 clear hg hW10 HZ HCS HCD HB9 HX9 HY9 c0 f0
 go_wp2_with fail
 obtain⟨k0,hk0⟩:∃ k0,W10.heap.size=k0:=⟨_,rfl⟩
 obtain⟨W11,hW11⟩:∃ W11,W10.alloc (.cells #[.slice (some ⟨Bx,0,none⟩) a 286,.slice (some ⟨By,0,none⟩) d 30] 55)=W11:=⟨_,rfl⟩
 have hbl:Below W10.heap.size W10 W11:=by rw[← hW11];exact(Below.refl _ _).alloc (Nat.le_refl _) _
 have hkc:W11.heap[k0]?=some (.cells #[.slice (some ⟨Bx,0,none⟩) a 286,.slice (some ⟨By,0,none⟩) d 30] 55 (0,0)):=by rw[← hW11,← hk0];exact World.alloc_heap_new _ _
 rw[hW11,hk0]
 have hX11:=rd_row (HX10.out.below hbl) (a:=a) (c:=286) (by rw[HXL.out];exact a286) a286
 have hY11:=rd_row (HY10.out.below hbl) (a:=d) (c:=30) (by rw[HYL.out];exact d30) d30
 rw[← HLS.out]at hX11
 rw[← HDS.out]at hY11
 have HCT:=Lib.hid (ci_calls k0 2 [(.slice (some ⟨Bx,0,none⟩) a 286,a,intsV (lsD ts)),(.slice (some ⟨By,0,none⟩) d 30,d,intsV (dsD ts))] W11 (fun j hj=>by
  have hj2:j<2:=by simpa using hj
  rcases j with _|_|j
  ·exact(cell_at hkc 0 _ rfl).1
  ·exact(cell_at hkc 1 _ rfl).1
  ·omega) (fun j hj=>by
  have hj2:j<2:=by simpa using hj
  rcases j with _|_|j
  ·exact hX11
  ·exact hY11
  ·omega) (fun j hj u hu=>by
  have hj2:j<2:=by simpa using hj
  rcases j with _|_|j
  ·obtain⟨x, -,rfl⟩:=List.mem_map.1 hu
   rfl
  ·obtain⟨x, -,rfl⟩:=List.mem_map.1 hu
   rfl
  ·omega) (by show 0<(List.map _ [_,_]).sum;simp;omega) (by show(List.map _ [_,_]).sum≤_;simp;omega) (by simp))
 have hsum:ci_sum [((.slice (some ⟨Bx,0,none⟩) a 286:Value),a,intsV (lsD ts)),(.slice (some ⟨By,0,none⟩) d 30,d,intsV (dsD ts))] 2=a+d:=by simp[ci_sum]
 have hcat:ci_cat [((.slice (some ⟨Bx,0,none⟩) a 286:Value),a,intsV (lsD ts)),(.slice (some ⟨By,0,none⟩) d 30,d,intsV (dsD ts))] 2=intsV (lsD ts++dsD ts):=by simp[ci_cat,intsV]
 simp only[List.length_cons,List.length_nil,Nat.zero_add,Nat.reduceAdd]at HCT
 rw[hsum,hcat]at HCT
 have HB11:=Lib.hid (HB10.out.trans (hbl.mono HB10.out.size))
 have HG11:=Lib.hid ((hbl.block G (Array.getElem?_eq_some_iff.1 HG10.out).1).trans HG10.out)
 have HCS11:=Lib.hid (HCS10.out.below hbl)
 have HCD11:=Lib.hid (HCD10.out.below hbl)
 clear hk0 hW11 hbl hkc hX11 hY11 hsum hcat HX10 HY10 HB10 HG10 HCS10 HCD10
 refine HCT.out.mono ?_
 rintro e w12 ⟨vc,rfl,hoc,hbl⟩
 obtain⟨gc,cc,rfl,_,_⟩:=hoc.form (by omega)
 have HB12:=Lib.hid (HB11.out.trans (hbl.mono HB11.out.size))
 have HG12:=Lib.hid ((hbl.block G (Array.getElem?_eq_some_iff.1 HG11.out).1).trans HG11.out)
 have HCS12:=Lib.hid (HCS11.out.below hbl)
 have HCD12:=Lib.hid (HCD11.out.below hbl)
 have hll:(lsD ts++dsD ts).length=a+d:=by rw[List.length_append,HLA.out,HLD.out]
 have hrc:=rdi_own (n:=a+d) hoc
 have HPK:=Lib.hid (pack_calls (some ⟨gc,0,none⟩) cc (lsD ts++dsD ts) w12 (fun j hj=>⟨gc,0,rfl,hrc j hj⟩) (by rw[hll];omega))
 rw[hll,told_packR ts hn]at HPK
 clear hoc hbl hll hrc HCT HB11 HG11 HCS11 HCD11
 go_wp2_with fail
 refine HPK.out.mono ?_
 rintro e w13 ⟨⟨vt,rfl,hot⟩,hbl⟩
 have htl:=told_ok ts hn
 obtain⟨gT,cT,rfl,_,_⟩:=hot.form (by omega)
 have hgT:=hot.lt gT rfl
 have HT13:=Lib.hid (Rd.own hot (by intro e;cases e))
 have hgT0:w.heap.size≤gT:=Nat.le_trans HB12.out.size hgT.1
 have hgTG:gT≠G:=by have:=(Array.getElem?_eq_some_iff.1 HG12.out).1;have:=hgT.1;omega
 have HB13:=Lib.hid (HB12.out.trans (hbl.mono HB12.out.size))
 have hz:=(hbl.block G (Array.getElem?_eq_some_iff.1 HG12.out).1).trans HG12.out
 obtain⟨c0,f0⟩:=cell_at hz 3 _ rfl
 have HZ:=Lib.hid hz
 have HCS13:=Lib.hid (HCS12.out.below hbl)
 have HCD13:=Lib.hid (HCD12.out.below hbl)
 obtain⟨nT,hnT⟩:∃ nT,(toldD ts).length=nT:=⟨_,rfl⟩
 have HNT:=Lib.hid hnT
 have HTO:=Lib.hid htl.1
 have hnT1:nT≤316:=by have:=htl.2.1;omega
 have hnT2:1≤nT:=by have:=htl.2.2;omega
 rw[hnT]at HT13 ⊢
 clear hot hbl hz HPK HB12 HG12 HCS12 HCD12 hnT htl hgT
 go_upto_region 9 with fail
 have hg:=grown_setG w13 G 3 (.slice (some ⟨gT,0,none⟩) nT cT)
 have HG14:=Lib.hid (heap_setCell_same w13 G 3 _ _ (.slice (some ⟨gT,0,none⟩) nT cT) HZ.out)
 have HCS14:=Lib.hid (canon_grown HCS13.out HZ.out hg)
 have HCD14:=Lib.hid (canon_grown HCD13.out HZ.out hg)
 have HT14:=Lib.hid (Rd.far HT13.out hg hgTG)
 have HB14:=Lib.hid (HB13.out.setCell (p:=⟨G,3,none⟩) hwG (.slice (some ⟨gT,0,none⟩) nT cT))
 obtain⟨W14,hW14⟩:∃ W14,w13.setCell ⟨G,3,none⟩ (.slice (some ⟨gT,0,none⟩) nT cT)=W14:=⟨_,rfl⟩
 rw[hW14]at HG14 HCS14 HCD14 HT14 HB14 ⊢
 clear hg hW14 HZ HCS13 HCD13 HT13 HB13 c0 f0
 obtain⟨i0,hi,hz0,hz1,hz2⟩:=info_parts info_int
 obtain⟨Z19,hZ19⟩:∃ Z,cellsI (List.replicate 19 0)=Z:=⟨_,rfl⟩
 have hmk:(Instr.makeSlice 55 (.int .i64 19) (.int .i64 19)).run Tryz.prog W14= .ok (.slice (some ⟨W14.heap.size,0,none⟩) 19 19) (W14.alloc (.cells Z19 3)):=by
  have:=run_make (P:=Tryz.prog) W14 55 3 i0 (.int .i64 0) Tryz.underlying55 hi hz0 .i64 .i64 (19:Nat) (19:Nat) (by omega) (by omega) (by rw[hz2];omega) (by omega)
  rw[← hZ19,← made_cells]
  simpa[hz1,Value.cells] using this
 have HZ19:=Lib.hid hZ19
 clear hi hz0 hz1 hz2 hZ19
 go_upto_region 10 with fail
 obtain⟨Bo,hBo⟩:∃ Bo,W14.heap.size=Bo:=⟨_,rfl⟩
 obtain⟨W15,hW15⟩:∃ W15,W14.alloc (.cells Z19 3)=W15:=⟨_,rfl⟩
 have hbl:Below W14.heap.size W14 W15:=by rw[← hW15];exact(Below.refl _ _).alloc (Nat.le_refl _) _
 have HR15:Hid (RowI W15 Bo (oftenP [])):=Lib.hid (by rw[← hW15,← hBo,← HZ19.out];exact heap_new W14 _)
 have HW15:=Lib.hid hbl
 have HBo:=Lib.hid hBo
 rw[hW15,hBo]
 have hGc:=(hbl.block G (Array.getElem?_eq_some_iff.1 HG14.out).1).trans HG14.out
 obtain⟨c3,f3⟩:=cell_at hGc 3 _ rfl
 clear hW15 hbl hBo hGc hmk f3
 go_wp2_with fail
 have hfp:∀ j,j<nT→∃ x:Ex,(toldD ts)[j]?=some x:=fun j hj=>⟨(toldD ts)[j]'(by rw[HNT.out];exact hj),List.getElem?_eq_getElem _⟩
 have HFP:=Lib.hid hfp
 clear hfp c3
 go_loopw [73] (fun vi wr=>∃ k:Nat,k≤nT∧vi= .int .i64 k∧RowI wr Bo (oftenP ((toldD ts).take k))∧Below W14.heap.size W14 wr) (fun vi _=>nT - (intOf vi).toNat)
 case atStart=>exact⟨0,Nat.zero_le _,rfl,HR15.out,HW15.out⟩
 case round =>
  obtain⟨k,hk,rfl,hr,hbl⟩:=hrel
  have HR:=Lib.hid hr
  have HB:=Lib.hid hbl
  clear hr hbl
  by_cases hlt:k<nT
  ·have p1:decide ((k:Int)<(nT:Int))=true:=decide_eq_true (by omega)
   have p1':decide (k<nT)=true:=decide_eq_true (by omega)
   have k1:k<(toldD ts).length:=by rw[HNT.out];exact hlt
   have HOT:=Lib.hid (often_take (toldD ts) k k1)
   have hok:=HTO.out (toldD ts)[k] (List.getElem_mem k1)
   obtain⟨h1,h2,h3⟩:=exs_cells (HT14.out.below HB.out) k k1
   obtain⟨x,hx⟩:∃ x,(toldD ts)[k]=x:=⟨_,rfl⟩
   rw[hx]at h1 h2 h3 HOT hok
   obtain⟨xs,xb,xv⟩:=x
   obtain⟨ho0,ho18,hob,hov⟩:=hok
   simp only at h1 h2 h3 ho0 ho18 hob hov
   obtain⟨s,rfl⟩:∃ s:Nat,xs=(s:Int):=⟨xs.toNat,by omega⟩
   simp only[Int.toNat_natCast]at HOT
   have hin:=inB_up (often_in ((toldD ts).take k)) (N:=1000) (by rw[List.length_take];omega)
   have hol:(oftenP ((toldD ts).take k)).length=19:=often_len _
   obtain⟨o,hoo⟩:∃ o,oftenP ((toldD ts).take k)=o:=⟨_,rfl⟩
   rw[hoo]at HR HOT hin hol
   have hbl:Below wr.heap.size wr (wr.alloc (.cells #[.int .i64 s,.int .i64 (xb:Int),.int .u64 (xv:Int)] 188)):=(Below.refl _ _).alloc (Nat.le_refl _) _
   have h8:=HR.out.below hbl
   have HB2:=Lib.hid (HB.out.trans (hbl.mono HB.out.size))
   obtain⟨y,hy,hy0,hyM,cy,fy⟩:=row_cell h8 s (by omega) hin
   have HR8:=Lib.hid (bump_row h8 s y hy)
   have s0:(0:Int)≤(s:Int):=by omega
   have s1:(s:Int)<19:=by omega
   clear hx hoo hbl h8 hy
   go_wp2
   go_roundw
   case rel=>exact⟨k+1,by omega,by go_num,by rw[HOT.out];exact HR8.out,HB2.out.setCell (p:=⟨Bo,s,none⟩) (by rw[HBo.out];exact Nat.le_refl _) _⟩
   case measure=>simp[intOf];omega
  ·obtain rfl:k=nT:=by omega
   have p1:decide ((k:Int)<(k:Int))=false:=decide_eq_false (by omega)
   have hfin:(toldD ts).take k=toldD ts:=List.take_of_length_le (by rw[HNT.out];exact Nat.le_refl _)
   rw[hfin]at HR
   clear hfin HR15 HW15
   have HG16:=Lib.hid ((HB.out.block G (Array.getElem?_eq_some_iff.1 HG14.out).1).trans HG14.out)
   have HCS16:=Lib.hid (HCS14.out.below HB.out)
   have HCD16:=Lib.hid (HCD14.out.below HB.out)
   have HT16:=Lib.hid (HT14.out.below HB.out)
   have HB16:=Lib.hid (HB14.out.trans (HB.out.mono HB14.out.size))
   have HOB:=often_bad ts hn
   have HST:=Lib.hid (strict_calls (some ⟨Bo,0,none⟩) 19 (oftenP (toldD ts)) 7 wr HR.out.reads HOB.1 HOB.2 (by rw[often_len];decide))
   rw[often_len]at HST
   clear HOB HG14 HCS14 HCD14 HT14 HB14 HR HB HFP
   go_wp2_with fail
   refine HST.out.mono ?_
   rintro e w17 ⟨Bz,rfl,hrz,hbz,hbl⟩
   have HZ17:Hid (RowI w17 Bz (tellD ts)):=Lib.hid hrz
   have HG17:=Lib.hid ((hbl.block G (Array.getElem?_eq_some_iff.1 HG16.out).1).trans HG16.out)
   have HCS17:=Lib.hid (HCS16.out.below hbl)
   have HCD17:=Lib.hid (HCD16.out.below hbl)
   have HT17:=Lib.hid (HT16.out.below hbl)
   have HB17:=Lib.hid (HB16.out.trans (hbl.mono HB16.out.size))
   have hzG:Bz≠G:=by have:=(Array.getElem?_eq_some_iff.1 HG16.out).1;omega
   have HZL:=Lib.hid (tellD_len ts)
   have HZI:=Lib.hid (tellD_in ts hn)
   have HZO:=Lib.hid (tellD_ok ts hn)
   have HNZ:=Lib.hid (newx_calls Bz 0 19 19 (tellD ts) false w17 HZL.out (by omega) (fun j hj=>by rw[Nat.zero_add];exact(HZ17.out.cell j hj).1) (fun x hx=>⟨(HZI.out x hx).1,by have:=(HZI.out x hx).2;omega⟩) HZO.out.1 HZO.out.2)
   clear hrz hbz hbl HST HG16 HCS16 HCD16 HT16 HB16
   go_wp2_with fail
   refine HNZ.out.mono ?_
   rintro e w18 ⟨gt,rfl,hct,hbl⟩
   have hz:=(hbl.block G (Array.getElem?_eq_some_iff.1 HG17.out).1).trans HG17.out
   obtain⟨c2,f2⟩:=cell_at hz 2 _ rfl
   have HZ:=Lib.hid hz
   have HCT18:=Lib.hid (canon_mono hct HB17.out.size)
   have HCS18:=Lib.hid (HCS17.out.below hbl)
   have HCD18:=Lib.hid (HCD17.out.below hbl)
   have HT18:=Lib.hid (HT17.out.below hbl)
   have HZ18:=Lib.hid (HZ17.out.below hbl)
   have HB18:=Lib.hid (HB17.out.trans (hbl.mono HB17.out.size))
   clear hct hbl hz HNZ HG17 HCS17 HCD17 HT17 HZ17 HB17
   go_upto_region 17 with fail
   have hg:=grown_setG w18 G 2 (.pointer (some ⟨gt,0,none⟩))
   have HG19:=Lib.hid (heap_setCell_same w18 G 2 _ _ (.pointer (some ⟨gt,0,none⟩)) HZ.out)
   have HCT19:=Lib.hid (canon_grown HCT18.out HZ.out hg)
   have HCS19:=Lib.hid (canon_grown HCS18.out HZ.out hg)
   have HCD19:=Lib.hid (canon_grown HCD18.out HZ.out hg)
   have HT19:=Lib.hid (Rd.far HT18.out hg hgTG)
   have HZ19':=Lib.hid (row_grown HZ18.out hg hzG)
   have HB19:=Lib.hid (HB18.out.setCell (p:=⟨G,2,none⟩) hwG (.pointer (some ⟨gt,0,none⟩)))
   obtain⟨W19,hW19⟩:∃ W19,w18.setCell ⟨G,2,none⟩ (.pointer (some ⟨gt,0,none⟩))=W19:=⟨_,rfl⟩
   rw[hW19]at HG19 HCT19 HCS19 HCD19 HT19 HZ19' HB19 ⊢
   clear hg hW19 HZ HCT18 HCS18 HCD18 HT18 HZ18 HB18 c2 f2
   obtain⟨c6,f6⟩:=cell_at HG19.out 6 _ rfl
   have HGr:Hid (∀ j:Nat,W19.grownBy (W19.setCell ⟨G,6,none⟩ (.int .i64 j)) (some G)):=Lib.hid (fun j=>grown_setG W19 G 6 _)
   have HGc:Hid (∀ j:Nat,(W19.setCell ⟨G,6,none⟩ (.int .i64 j)).heap[G]?=some (.cells #[.pointer (some ⟨gs,0,none⟩),.pointer (some ⟨gd,0,none⟩),.pointer (some ⟨gt,0,none⟩),.slice (some ⟨gT,0,none⟩) k cT,.int .i64 a,.int .i64 d,.int .i64 j] 183 (0,0))):=Lib.hid (fun j=>heap_setCell_same W19 G 6 _ _ (.int .i64 j) HG19.out)
   have H19:Hid ((W19.setCell ⟨G,6,none⟩ (.int .i64 (19:Nat))).heap[G]?=some (.cells #[.pointer (some ⟨gs,0,none⟩),.pointer (some ⟨gd,0,none⟩),.pointer (some ⟨gt,0,none⟩),.slice (some ⟨gT,0,none⟩) k cT,.int .i64 a,.int .i64 d,.int .i64 (19:Nat)] 183 (0,0))):=Lib.hid (HGc.out 19)
   have HO19:=Lib.hid (HO.out.below HB19.out (Nat.le_refl _))
   have hoG:4≠G:=by have:=HO.out.lt;omega
   have HG0:=Lib.hid (HGr.out 19)
   go_wp2_with fail
   have HTC:Hid (tellGo (tellD ts) 19=tellC (tellD ts)):=Lib.hid rfl
   go_loopw [] (fun wq=>∃ k2:Nat,4≤k2∧k2≤19∧tellGo (tellD ts) k2=tellC (tellD ts)∧wq.heap[G]?=some (.cells #[.pointer (some ⟨gs,0,none⟩),.pointer (some ⟨gd,0,none⟩),.pointer (some ⟨gt,0,none⟩),.slice (some ⟨gT,0,none⟩) k cT,.int .i64 a,.int .i64 d,.int .i64 k2] 183 (0,0))∧W19.grownBy wq (some G)) (fun wq=>cellN wq ⟨G,6,none⟩)
   case atStart=>exact⟨19,by omega,by omega,HTC.out,H19.out,HG0.out⟩
   case round =>
    obtain⟨k2,hk4,hk19,htg,hgc,hgr⟩:=hrel
    have HTG:=Lib.hid htg
    have HGQ:=Lib.hid hgc
    have HGB:=Lib.hid hgr
    obtain⟨c6,f6⟩:=cell_at hgc 6 _ rfl
    have HCN:=Lib.hid (cellN_of c6)
    have hor:=HO19.out.grown hgr hoG
    have hzr:=row_grown HZ19'.out hgr hzG
    clear htg hgc hgr
    by_cases h4:4<k2
    ·have r1:decide ((4:Int)<(k2:Int))=true:=decide_eq_true (by omega)
     have r1':decide (4<k2)=true:=decide_eq_true h4
     obtain⟨m,rfl⟩:∃ m,k2=m+1:=⟨k2 - 1,by omega⟩
     have hoc:=hor.cell m (by omega)
     have hos:=ordT_lt m (by omega)
     obtain⟨os,hos2⟩:∃ os,ordT.getD m 0=os:=⟨_,rfl⟩
     rw[hos2]at hoc hos
     have hzl:os<(tellD ts).length:=by rw[HZL.out];exact hos
     obtain⟨hzc,hzf⟩:=hzr.cell os hzl
     have hzd:(tellD ts).getD os 0=(tellD ts)[os]:=getD_of hzl
     obtain⟨y,hy⟩:∃ y,(tellD ts)[os]=y:=⟨_,rfl⟩
     rw[hy]at hzc hzd
     have e2:(m:Int)+1 - 1=(m:Int):=by omega
     have e3:wrap64 ((m:Int)+1 - 1)=(m:Int):=by unfold wrap64;omega
     have m0:(0:Int)≤(m:Int):=by omega
     have m1:(m:Int)<19:=by omega
     have o0:(0:Int)≤(os:Int):=by omega
     have o1:(os:Int)<19:=by omega
     have r2:decide ((4:Int)<(m:Int)+1)=true:=decide_eq_true (by omega)
     have HOS:=Lib.hid hos2
     clear hy hor hzr hzf hos2
     by_cases h0:y=0
     ·have r3:(y == 0)=true:=beq_iff_eq.2 h0
      have HNx:Hid (tellGo (tellD ts) m=tellC (tellD ts)):=Lib.hid (by
       have h:=HTG.out
       rw[tellGo,if_pos ⟨h4,by rw[HOS.out,hzd];exact h0⟩]at h
       exact h)
      have HGs:=Lib.hid (heap_setCell_same wr G 6 _ _ (.int .i64 (m:Int)) HGQ.out)
      have HGg:=Lib.hid (HGB.out.trans (grown_setG wr G 6 (.int .i64 (m:Int))))
      clear hzd
      go_wp2
      go_roundw
      case rel=>exact⟨m,by omega,by omega,HNx.out,HGs.out,HGg.out⟩
      case measure =>
       rw[HCN.out,cellN_of (cell_at HGs.out 6 _ rfl).1]
       omega
     ·have r3:(y == 0)=false:=beq_eq_false_iff_ne.2 h0
      have HNx:Hid (m+1=tellC (tellD ts)):=Lib.hid (by
       have h:=HTG.out
       rw[tellGo,if_neg (fun hh=>h0 (by rw[← hzd,← HOS.out];exact hh.2))]at h
       exact h)
      clear hzd
      go_wp2
      go_ret
      refine⟨G,rfl,⟨⟨gs,gd,gt,gT,cT,?_,canon_grown HCS19.out HG19.out HGB.out,canon_grown HCD19.out HG19.out HGB.out,canon_grown HCT19.out HG19.out HGB.out,?_,hwG,hgT0⟩⟩,HB19.out.grown HGB.out HB19.out.size (fun r e=>by cases e;exact hwG)⟩
      ·rw[HNT.out,HLA.out,HLD.out,← HNx.out]
       exact HGQ.out
      ·rw[HNT.out]
       exact Rd.far HT19.out HGB.out hgTG
    ·obtain rfl:k2=4:=by omega
     have r1:decide ((4:Int)<((4:Nat):Int))=false:=by decide
     have HNx:Hid (4=tellC (tellD ts)):=Lib.hid (by
      have h:=HTG.out
      rw[tellGo,if_neg (fun hh=>by omega)]at h
      exact h)
     clear hor hzr
     go_wp2
     go_ret
     refine⟨G,rfl,⟨⟨gs,gd,gt,gT,cT,?_,canon_grown HCS19.out HG19.out HGB.out,canon_grown HCD19.out HG19.out HGB.out,canon_grown HCT19.out HG19.out HGB.out,?_,hwG,hgT0⟩⟩,HB19.out.grown HGB.out HB19.out.size (fun r e=>by cases e;exact hwG)⟩
     ·rw[HNT.out,HLA.out,HLD.out,← HNx.out]
      exact HGQ.out
     ·rw[HNT.out]
      exact Rd.far HT19.out HGB.out hgTG
end Go.Proofs.YtgiogemkomgkhaaGreatDoor.Bk
