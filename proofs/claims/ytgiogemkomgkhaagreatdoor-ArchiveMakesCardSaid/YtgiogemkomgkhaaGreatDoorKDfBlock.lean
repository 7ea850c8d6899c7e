/-
  deflate.Encoder, in memory; a block of a part is written.
-/
import Derived.Test.YtgiogemkomgkhaaGreatDoorKMt
import Derived.Test.YtgiogemkomgkhaaGreatDoorKBkW
import Derived.Test.YtgiogemkomgkhaaGreatDoorKReg
set_option linter.unusedVariables false
set_option linter.unusedSimpArgs false
namespace Go.Proofs.YtgiogemkomgkhaaGreatDoor.Df
open Go.RowKit Go.Shelf Mg Bw Bk Cn Zp Rf Mt Ri
structure EncAt (w:World) (base X:Nat) (level:Nat) (ahead rest:ByteArray) (v:Value) (bs:List Bool) (closed:Bool):Prop where
 c0:w.cell? ⟨X,0,none⟩=some (.int .i64 level)
 c1:w.cell? ⟨X,1,none⟩=some (.string ahead)
 c2:w.cell? ⟨X,2,none⟩=some (.string rest)
 c6:w.cell? ⟨X,6,none⟩=some (.bool closed)
 wr:WAt w base X 3 v bs
 b:base≤X
theorem EncAt.f {w:World} {base X level:Nat} {ahead rest:ByteArray} {v:Value} {bs:List Bool} {closed:Bool} (h:EncAt w base X level ahead rest v bs closed) (k:Nat):w.frozen? ⟨X,k,none⟩=false:=by
 obtain⟨dn,acc,n,hr, -, -⟩:=h.wr
 exact hr.f0 k
theorem EncAt.lt {w:World} {base X level:Nat} {ahead rest:ByteArray} {v:Value} {bs:List Bool} {closed:Bool} (h:EncAt w base X level ahead rest v bs closed):X<w.heap.size:=h.wr.Bt
theorem EncAt.below {w w':World} {base X level:Nat} {ahead rest:ByteArray} {v:Value} {bs:List Bool} {closed:Bool} (h:EncAt w base X level ahead rest v bs closed) (hb:Below w.heap.size w w'):EncAt w' base X level ahead rest v bs closed :=
 have e:∀ k,w'.cell? ⟨X,k,none⟩=w.cell? ⟨X,k,none⟩:=fun k=>World.cell?_of_block (a:=⟨X,k,none⟩) (hb.block X h.lt)
 ⟨(e 0).trans h.c0,(e 1).trans h.c1,(e 2).trans h.c2,(e 6).trans h.c6,wat_below h.wr hb,h.b⟩
theorem EncAt.wrote {w w':World} {base X level:Nat} {ahead rest:ByteArray} {v v':Value} {bs bs':List Bool} {closed:Bool} (h:EncAt w base X level ahead rest v bs closed) (hw:Wrote X 3 v w v' w') (hb:WAt w' base X 3 v' bs'):EncAt w' base X level ahead rest v' bs' closed :=
 ⟨(hw.rest 0 (.inl (by decide))).trans h.c0,(hw.rest 1 (.inl (by decide))).trans h.c1,(hw.rest 2 (.inl (by decide))).trans h.c2,(hw.rest 6 (.inr (by decide))).trans h.c6,hb,h.b⟩
theorem wat_set {w:World} {base B o:Nat} {v:Value} {bs:List Bool} (h:WAt w base B o v bs) (j:Nat) (hj:j<o∨o+3≤j) (x:Value):WAt (w.setCell ⟨B,j,none⟩ x) base B o v bs:=by
 obtain⟨dn,acc,n,hr,hn,hb⟩:=h
 have hc:∀ k,k≠j→(w.setCell ⟨B,j,none⟩ x).cell? ⟨B,k,none⟩=w.cell? ⟨B,k,none⟩:=fun k hk=>by
  rw[World.cell?_setCell_other]
  intro e
  cases e
  exact hk rfl
 exact⟨dn,acc,n,⟨hr.row.kept (Mg.grown_set w B j x) (.inr hr.ne),(hc _ (by omega)).trans hr.c0,(hc _ (by omega)).trans hr.c1,(hc _ (by omega)).trans hr.c2,fun k=>by rw[World.frozen?_setCell];exact hr.f0 k,hr.ne,hr.byte,hr.lt,Nat.le_trans hr.b (by simp[World.setCell])⟩,hn,hb⟩
theorem EncAt.set1 {w:World} {base X level:Nat} {ahead rest:ByteArray} {v:Value} {bs:List Bool} {closed:Bool} (h:EncAt w base X level ahead rest v bs closed) (a:ByteArray):EncAt (w.setCell ⟨X,1,none⟩ (.string a)) base X level a rest v bs closed :=
 ⟨(World.cell?_setCell_other _ _ _ _ (by intro e;simp at e)).trans h.c0,World.cell?_setCell_same _ _ _ h.c1,(World.cell?_setCell_other _ _ _ _ (by intro e;simp at e)).trans h.c2,(World.cell?_setCell_other _ _ _ _ (by intro e;simp at e)).trans h.c6,wat_set h.wr 1 (.inl (by decide)) _,h.b⟩
theorem EncAt.set2 {w:World} {base X level:Nat} {ahead rest:ByteArray} {v:Value} {bs:List Bool} {closed:Bool} (h:EncAt w base X level ahead rest v bs closed) (a:ByteArray):EncAt (w.setCell ⟨X,2,none⟩ (.string a)) base X level ahead a v bs closed :=
 ⟨(World.cell?_setCell_other _ _ _ _ (by intro e;simp at e)).trans h.c0,(World.cell?_setCell_other _ _ _ _ (by intro e;simp at e)).trans h.c1,World.cell?_setCell_same _ _ _ h.c2,(World.cell?_setCell_other _ _ _ _ (by intro e;simp at e)).trans h.c6,wat_set h.wr 2 (.inl (by decide)) _,h.b⟩
theorem EncAt.set6 {w:World} {base X level:Nat} {ahead rest:ByteArray} {v:Value} {bs:List Bool} {closed:Bool} (h:EncAt w base X level ahead rest v bs closed) (a:Bool):EncAt (w.setCell ⟨X,6,none⟩ (.bool a)) base X level ahead rest v bs a :=
 ⟨(World.cell?_setCell_other _ _ _ _ (by intro e;simp at e)).trans h.c0,(World.cell?_setCell_other _ _ _ _ (by intro e;simp at e)).trans h.c1,(World.cell?_setCell_other _ _ _ _ (by intro e;simp at e)).trans h.c2,World.cell?_setCell_same _ _ _ h.c6,wat_set h.wr 6 (.inr (by decide)) _,h.b⟩
def GlobT (w:World) (base:Nat):Prop:=OrdT w∧DepT w∧4<base∧2<base
theorem GlobT.below {w w':World} {base:Nat} (h:GlobT w base) (hb:Below base w w'):GlobT w' base:=by
 obtain⟨⟨cs,t,fr,h1,h2⟩,⟨cs2,t2,fr2,h3,h4⟩,h5,h6⟩:=h
 exact⟨⟨cs,t,fr,(hb.block _ h5).trans h1,h2⟩,⟨cs2,t2,fr2,(hb.block _ h6).trans h3,h4⟩,h5,h6⟩
def kindP (level sz:Nat) (ts:List Tok):Nat:=if level=0 then 0 else chooseP sz ts
theorem choose_le (sz:Nat) (ts:List Tok):chooseP sz ts≤2:=by
 unfold chooseP
 split
 ·split
  ·split<;>omega
  ·split<;>omega
 ·omega
def blkP (level:Nat) (last:Bool) (a s:ByteArray):Blk:=⟨kindP level s.size (tokP a s level),last,tokP a s level,s⟩
theorem may_tok (a s:ByteArray) (level:Nat) (hs:s.size≤60000) (k:Nat) (hk:k≤2):mayB (k:Int) s.size (tokP a s level)=true:=by
 obtain⟨-, -,h3,h4⟩:=tokP_ok a s level
 unfold mayB
 rw[decide_eq_true (by omega:(0:Int)≤(k:Int)),decide_eq_true (by omega:(k:Int)<3),decide_eq_true (by omega:s.size≤65535),decide_eq_true (by omega:(tokP a s level).length≤65535)]
 simp only[Bool.true_and]
 rw[List.all_eq_true]
 exact fun t ht=>(h3 t ht).2.1
theorem writex_calls (k:Nat) (hk:k≤2) (last:Bool) (s:ByteArray) (A:Option Addr) (c:Nat) (ts:List Tok) (base B o:Nat) (v:Value) (bs:List Bool) (w:World) (hA:TokAt w A ts) (hAB:TokB w B A) (hbyte:∀ t∈ts,0≤t.b∧t.b<256) (hm:∀ j:Nat,j≤2→mayB (j:Int) s.size ts=true) (hw:WAt w base B o v bs) (hO:OrdT w) (hO1:4<base) (hO2:4≠B) (hbs:bs.length≤10000000000) :
  Calls Tryz.prog 73 #[.pointer (some ⟨B,o,none⟩),.int .i64 k,.bool last,.string s,.slice A ts.length c] w fun e w'=>e= .returned (.int .i64 0)∧∃ v',WAt w' base B o v' (wrB bs ⟨k,last,ts,s⟩)∧Wrote B o v w v' w':=by
 rcases (by omega:k=0∨k=1∨k=2) with rfl|rfl|rfl
 ·exact write0_calls last s A c ts base B o v bs w hA (hm 0 (by decide)) hw hbs
 ·exact write1_calls last s A c ts base B o v bs w hA hAB hbyte (hm 1 (by decide)) hw hbs
 ·exact write2_calls last s A c ts base B o v bs w hA hAB hbyte (hm 2 (by decide)) hw hO hO1 hO2 hbs
theorem wrB_le (bs:List Bool) (k:Nat) (hk:k≤2) (last:Bool) (ts:List Tok) (s:ByteArray) (hn:ts.length≤65535) (hs:s.size≤65535):(wrB bs ⟨k,last,ts,s⟩).length≤bs.length+4000000:=by
 unfold wrB
 split
 ·rename_i h
  show(storedB bs last s).length≤_
  unfold storedB
  have h1:=padB_le (bs++kindB 0 last)
  rw[List.length_append,kindB_len]at h1
  rw[List.length_append,strB_len,storedS_size]
  omega
 ·rename_i h
  have h0:k≠0:=h
  have h2:=blockB_le k (by omega) last ts hn
  show(bs++blockB k last ts).length≤_
  rw[List.length_append]
  omega
set_option maxHeartbeats 4000000 in
set_option maxRecDepth 100000 in
theorem block_calls (base X level n:Nat) (last:Bool) (a rest:ByteArray) (v:Value) (bs:List Bool) (closed:Bool) (w:World) (hE:EncAt w base X level a rest v bs closed) (hG:GlobT w base) (hl:level≤9) (hn:n≤rest.size) (hn2:n≤16384) (hr:rest.size≤1000000) (ha:a.size+n≤32768) (hbs:bs.length≤1000000000) :
  Calls Tryz.prog 45 #[.pointer (some ⟨X,0,none⟩),.int .i64 n,.bool last] w fun e w'=>e= .returned (.tuple #[])∧(∃ v',EncAt w' base X level (a++rest.extract 0 n) (rest.extract n rest.size) v' (wrB bs (blkP level last a (rest.extract 0 n))) closed)∧Below base w w':=by
 have hss:(rest.extract 0 n).size=n:=by rw[ByteArray.size_extract];omega
 obtain⟨s,hs⟩:∃ s,rest.extract 0 n=s:=⟨_,rfl⟩
 obtain⟨r,hrr⟩:∃ r,rest.extract n rest.size=r:=⟨_,rfl⟩
 rw[hs]at hss
 have HS:=Lib.hid hs
 have HR:=Lib.hid hrr
 have c2:=hE.c2
 have f2:=hE.f 2
 have HE:=Lib.hid hE
 have HG:=Lib.hid hG
 have i0:(0:Int)≤(n:Int):=by omega
 have i1:(n:Int)≤(rest.size:Int):=by omega
 have i2:decide ((n:Int)≤(rest.size:Int))=true:=decide_eq_true i1
 have i3:decide (n≤rest.size)=true:=decide_eq_true hn
 clear hE hG
 go_enter Tryz.func45,Tryz.ntmps45
 go_upto_region 2 with fail
 clear hs hrr c2 f2 i0 i1 i2 i3
 have HE1:=Lib.hid (HE.out.set2 r)
 have hbX:=HE.out.b
 have HB1:Hid (Below base w (w.setCell ⟨X,2,none⟩ (.string r))):=Lib.hid ((Below.refl _ _).setCell (p:=⟨X,2,none⟩) hbX _)
 obtain⟨w1,hw1⟩:∃ w1,w.setCell ⟨X,2,none⟩ (.string r)=w1:=⟨_,rfl⟩
 rw[hw1]at HE1 HB1 ⊢
 clear hw1
 have HTK:=Lib.hid (fun (W:World) (hb:Below w1.heap.size w1 W)=>tokensx_calls a s level W hl (by omega) (by omega) ((HG.out.below HB1.out).below (hb.mono HE1.out.wr.ge.1)).2.1)
 refine wp_region_at [(0,.pointer (some ⟨X,0,none⟩)),(6,.string s)] 77 (fun a0 L a' wx=>∃ (x26 x27 x28 x29 x30 x31 x32 x33 x34 x35 x25 x36 x37 x7 x8:Value) (At:Option Addr) (ct:Nat),a'=putL a0 [(26,x26),(27,x27),(28,x28),(29,x29),(30,x30),(31,x31),(32,x32),(33,x33),(34,x34),(35,x35),(25,x25),(36,x36),(37,x37),(7,x7),(8,x8)]∧Hid (L 0=true→x26= .pointer (some ⟨X,0,none⟩))∧Hid (L 1=true→x27= .pointer (some ⟨X,0,none⟩))∧Hid (L 2=true→x28= .pointer (some ⟨X,1,none⟩))∧Hid (L 3=true→x29= .string a)∧Hid (L 4=true→x30= .string s)∧Hid (L 5=true→x31= .pointer (some ⟨X,0,none⟩))∧Hid (L 6=true→x32= .pointer (some ⟨X,0,none⟩))∧Hid (L 7=true→x33= .pointer (some ⟨X,0,none⟩))∧Hid (L 8=true→x34= .int .i64 level)∧Hid (L 9=true→x35= .tuple #[.slice At (tokP a s level).length ct,.int .i64 0])∧Hid (L 10=true→x25= .tuple #[.slice At (tokP a s level).length ct,.int .i64 0])∧Hid (L 11=true→x36= .slice At (tokP a s level).length ct)∧Hid (L 12=true→x37= .int .i64 0)∧Hid (L 13=true→x7= .slice At (tokP a s level).length ct)∧Hid (L 14=true→x8= .int .i64 0)∧Hid (L 10=true→L 9=true)∧Hid (L 11=true→L 9=true)∧Hid (L 13=true→L 9=true)∧Hid (Below w1.heap.size w1 wx)∧Hid (L 9=true→wx.ownsRow w1.heap.size 151 3 (.slice At (tokP a s level).length ct) (tokP a s level).length (toksC (tokP a s level)))) (by kernel_rfl) (by kernel_rfl) (by simp) (by simp[Olds,Act.eval]) (fun a0 hn0=>?_) (fun a0 QQ hn0 ho0=>?_) (fun L a' wx hall hI=>?_)
 ·refine⟨_,_,_,_,_,_,_,_,_,_,_,_,_,_,_,none,0,putL_self a0 [26,27,28,29,30,31,32,33,34,35,25,36,37,7,8],?_⟩
  exact⟨Lib.hid (fun h=>by cases h),Lib.hid (fun h=>by cases h),Lib.hid (fun h=>by cases h),Lib.hid (fun h=>by cases h),Lib.hid (fun h=>by cases h),Lib.hid (fun h=>by cases h),Lib.hid (fun h=>by cases h),Lib.hid (fun h=>by cases h),Lib.hid (fun h=>by cases h),Lib.hid (fun h=>by cases h),Lib.hid (fun h=>by cases h),Lib.hid (fun h=>by cases h),Lib.hid (fun h=>by cases h),Lib.hid (fun h=>by cases h),Lib.hid (fun h=>by cases h),Lib.hid (fun h=>by cases h),Lib.hid (fun h=>by cases h),Lib.hid (fun h=>by cases h),Lib.hid (Go.below_drewN (Below.refl _ _) 1),Lib.hid (fun h=>by cases h)⟩
 ·obtain⟨o0,o6, -⟩:=ho0
  refine steps_cons (fun L a' wx KK hK hL hP hI=>?_) ?_
  ·obtain⟨x26,x27,x28,x29,x30,x31,x32,x33,x34,x35,x25,x36,x37,x7,x8,At,ct,ha,h0,h1,h2,h3,h4,h5,h6,h7,h8,h9,h10,h11,h12,h13,h14,d10,d11,d13,wb,wt⟩:=hI
   have e0:a'.eval (.tmp 0)= .pointer (some ⟨X,0,none⟩):=by rw[ha];exact(eval_old a0 0 [(26,x26),(27,x27),(28,x28),(29,x29),(30,x30),(31,x31),(32,x32),(33,x33),(34,x34),(35,x35),(25,x25),(36,x36),(37,x37),(7,x7),(8,x8)] rfl).trans o0
   have t0:a'.tmps[0]?.getD undef= .pointer (some ⟨X,0,none⟩):=by simpa[Act.eval] using e0
   have HA:=Lib.hid ha
   clear ha
   unfold Oper.wp
   simp only[execOp,e0]
   go_simp
   exact hK _ _ ⟨.pointer (some ⟨X,0,none⟩),x27,x28,x29,x30,x31,x32,x33,x34,x35,x25,x36,x37,x7,x8,At,ct,(by rw[HA.out];exact putL_setB 26 _ _ rfl rfl a0),Lib.hid (fun _=>rfl),Lib.hid (fun h=>h1.out ((upd_other L 0 1 (by decide)).symm.trans h)),Lib.hid (fun h=>h2.out ((upd_other L 0 2 (by decide)).symm.trans h)),Lib.hid (fun h=>h3.out ((upd_other L 0 3 (by decide)).symm.trans h)),Lib.hid (fun h=>h4.out ((upd_other L 0 4 (by decide)).symm.trans h)),Lib.hid (fun h=>h5.out ((upd_other L 0 5 (by decide)).symm.trans h)),Lib.hid (fun h=>h6.out ((upd_other L 0 6 (by decide)).symm.trans h)),Lib.hid (fun h=>h7.out ((upd_other L 0 7 (by decide)).symm.trans h)),Lib.hid (fun h=>h8.out ((upd_other L 0 8 (by decide)).symm.trans h)),Lib.hid (fun h=>h9.out ((upd_other L 0 9 (by decide)).symm.trans h)),Lib.hid (fun h=>h10.out ((upd_other L 0 10 (by decide)).symm.trans h)),Lib.hid (fun h=>h11.out ((upd_other L 0 11 (by decide)).symm.trans h)),Lib.hid (fun h=>h12.out ((upd_other L 0 12 (by decide)).symm.trans h)),Lib.hid (fun h=>h13.out ((upd_other L 0 13 (by decide)).symm.trans h)),Lib.hid (fun h=>h14.out ((upd_other L 0 14 (by decide)).symm.trans h)),Lib.hid (fun h=>(upd_other L 0 9 (by decide)).trans (d10.out ((upd_other L 0 10 (by decide)).symm.trans h))),Lib.hid (fun h=>(upd_other L 0 9 (by decide)).trans (d11.out ((upd_other L 0 11 (by decide)).symm.trans h))),Lib.hid (fun h=>(upd_other L 0 9 (by decide)).trans (d13.out ((upd_other L 0 13 (by decide)).symm.trans h))),wb,Lib.hid (fun h=>wt.out ((upd_other L 0 9 (by decide)).symm.trans h))⟩
  refine steps_cons (fun L a' wx KK hK hL hP hI=>?_) ?_
  ·obtain⟨x26,x27,x28,x29,x30,x31,x32,x33,x34,x35,x25,x36,x37,x7,x8,At,ct,ha,h0,h1,h2,h3,h4,h5,h6,h7,h8,h9,h10,h11,h12,h13,h14,d10,d11,d13,wb,wt⟩:=hI
   have p0:L 0=true:=pre_mem hP 0 (by decide)
   obtain rfl:=h0.out p0
   have v26:a'.eval (.tmp 26)= .pointer (some ⟨X,0,none⟩):=by rw[ha];exact eval_new a0 26 _ (by rw[hn0];decide) _ (rfl:slotB 26 [(26,.pointer (some ⟨X,0,none⟩)),(27,x27),(28,x28),(29,x29),(30,x30),(31,x31),(32,x32),(33,x33),(34,x34),(35,x35),(25,x25),(36,x36),(37,x37),(7,x7),(8,x8)]=_)
   have s26:a'.tmps[26]?.getD undef= .pointer (some ⟨X,0,none⟩):=by simpa[Act.eval] using v26
   have HA:=Lib.hid ha
   clear ha
   unfold Oper.wp
   simp only[execOp,v26]
   go_simp
   exact hK _ _ ⟨.pointer (some ⟨X,0,none⟩),.pointer (some ⟨X,0,none⟩),x28,x29,x30,x31,x32,x33,x34,x35,x25,x36,x37,x7,x8,At,ct,(by rw[HA.out];exact putL_setB 27 _ _ rfl rfl a0),Lib.hid (fun h=>h0.out ((upd_other L 1 0 (by decide)).symm.trans h)),Lib.hid (fun _=>rfl),Lib.hid (fun h=>h2.out ((upd_other L 1 2 (by decide)).symm.trans h)),Lib.hid (fun h=>h3.out ((upd_other L 1 3 (by decide)).symm.trans h)),Lib.hid (fun h=>h4.out ((upd_other L 1 4 (by decide)).symm.trans h)),Lib.hid (fun h=>h5.out ((upd_other L 1 5 (by decide)).symm.trans h)),Lib.hid (fun h=>h6.out ((upd_other L 1 6 (by decide)).symm.trans h)),Lib.hid (fun h=>h7.out ((upd_other L 1 7 (by decide)).symm.trans h)),Lib.hid (fun h=>h8.out ((upd_other L 1 8 (by decide)).symm.trans h)),Lib.hid (fun h=>h9.out ((upd_other L 1 9 (by decide)).symm.trans h)),Lib.hid (fun h=>h10.out ((upd_other L 1 10 (by decide)).symm.trans h)),Lib.hid (fun h=>h11.out ((upd_other L 1 11 (by decide)).symm.trans h)),Lib.hid (fun h=>h12.out ((upd_other L 1 12 (by decide)).symm.trans h)),Lib.hid (fun h=>h13.out ((upd_other L 1 13 (by decide)).symm.trans h)),Lib.hid (fun h=>h14.out ((upd_other L 1 14 (by decide)).symm.trans h)),Lib.hid (fun h=>(upd_other L 1 9 (by decide)).trans (d10.out ((upd_other L 1 10 (by decide)).symm.trans h))),Lib.hid (fun h=>(upd_other L 1 9 (by decide)).trans (d11.out ((upd_other L 1 11 (by decide)).symm.trans h))),Lib.hid (fun h=>(upd_other L 1 9 (by decide)).trans (d13.out ((upd_other L 1 13 (by decide)).symm.trans h))),wb,Lib.hid (fun h=>wt.out ((upd_other L 1 9 (by decide)).symm.trans h))⟩
  refine steps_cons (fun L a' wx KK hK hL hP hI=>?_) ?_
  ·obtain⟨x26,x27,x28,x29,x30,x31,x32,x33,x34,x35,x25,x36,x37,x7,x8,At,ct,ha,h0,h1,h2,h3,h4,h5,h6,h7,h8,h9,h10,h11,h12,h13,h14,d10,d11,d13,wb,wt⟩:=hI
   have p1:L 1=true:=pre_mem hP 1 (by decide)
   obtain rfl:=h1.out p1
   have v27:a'.eval (.tmp 27)= .pointer (some ⟨X,0,none⟩):=by rw[ha];exact eval_new a0 27 _ (by rw[hn0];decide) _ (rfl:slotB 27 [(26,x26),(27,.pointer (some ⟨X,0,none⟩)),(28,x28),(29,x29),(30,x30),(31,x31),(32,x32),(33,x33),(34,x34),(35,x35),(25,x25),(36,x36),(37,x37),(7,x7),(8,x8)]=_)
   have s27:a'.tmps[27]?.getD undef= .pointer (some ⟨X,0,none⟩):=by simpa[Act.eval] using v27
   have HA:=Lib.hid ha
   clear ha
   unfold Oper.wp
   simp only[execOp,v27]
   go_simp
   exact hK _ _ ⟨x26,.pointer (some ⟨X,0,none⟩),.pointer (some ⟨X,1,none⟩),x29,x30,x31,x32,x33,x34,x35,x25,x36,x37,x7,x8,At,ct,(by rw[HA.out];exact putL_setB 28 _ _ rfl rfl a0),Lib.hid (fun h=>h0.out ((upd_other L 2 0 (by decide)).symm.trans h)),Lib.hid (fun h=>h1.out ((upd_other L 2 1 (by decide)).symm.trans h)),Lib.hid (fun _=>rfl),Lib.hid (fun h=>h3.out ((upd_other L 2 3 (by decide)).symm.trans h)),Lib.hid (fun h=>h4.out ((upd_other L 2 4 (by decide)).symm.trans h)),Lib.hid (fun h=>h5.out ((upd_other L 2 5 (by decide)).symm.trans h)),Lib.hid (fun h=>h6.out ((upd_other L 2 6 (by decide)).symm.trans h)),Lib.hid (fun h=>h7.out ((upd_other L 2 7 (by decide)).symm.trans h)),Lib.hid (fun h=>h8.out ((upd_other L 2 8 (by decide)).symm.trans h)),Lib.hid (fun h=>h9.out ((upd_other L 2 9 (by decide)).symm.trans h)),Lib.hid (fun h=>h10.out ((upd_other L 2 10 (by decide)).symm.trans h)),Lib.hid (fun h=>h11.out ((upd_other L 2 11 (by decide)).symm.trans h)),Lib.hid (fun h=>h12.out ((upd_other L 2 12 (by decide)).symm.trans h)),Lib.hid (fun h=>h13.out ((upd_other L 2 13 (by decide)).symm.trans h)),Lib.hid (fun h=>h14.out ((upd_other L 2 14 (by decide)).symm.trans h)),Lib.hid (fun h=>(upd_other L 2 9 (by decide)).trans (d10.out ((upd_other L 2 10 (by decide)).symm.trans h))),Lib.hid (fun h=>(upd_other L 2 9 (by decide)).trans (d11.out ((upd_other L 2 11 (by decide)).symm.trans h))),Lib.hid (fun h=>(upd_other L 2 9 (by decide)).trans (d13.out ((upd_other L 2 13 (by decide)).symm.trans h))),wb,Lib.hid (fun h=>wt.out ((upd_other L 2 9 (by decide)).symm.trans h))⟩
  refine steps_cons (fun L a' wx KK hK hL hP hI=>?_) ?_
  ·obtain⟨x26,x27,x28,x29,x30,x31,x32,x33,x34,x35,x25,x36,x37,x7,x8,At,ct,ha,h0,h1,h2,h3,h4,h5,h6,h7,h8,h9,h10,h11,h12,h13,h14,d10,d11,d13,wb,wt⟩:=hI
   have p2:L 2=true:=pre_mem hP 2 (by decide)
   obtain rfl:=h2.out p2
   have v28:a'.eval (.tmp 28)= .pointer (some ⟨X,1,none⟩):=by rw[ha];exact eval_new a0 28 _ (by rw[hn0];decide) _ (rfl:slotB 28 [(26,x26),(27,x27),(28,.pointer (some ⟨X,1,none⟩)),(29,x29),(30,x30),(31,x31),(32,x32),(33,x33),(34,x34),(35,x35),(25,x25),(36,x36),(37,x37),(7,x7),(8,x8)]=_)
   have s28:a'.tmps[28]?.getD undef= .pointer (some ⟨X,1,none⟩):=by simpa[Act.eval] using v28
   have HA:=Lib.hid ha
   clear ha
   unfold Oper.wp
   simp only[execOp,v28]
   have ck:=(HE1.out.below wb.out).c1
   go_simp
   exact hK _ _ ⟨x26,x27,.pointer (some ⟨X,1,none⟩),.string a,x30,x31,x32,x33,x34,x35,x25,x36,x37,x7,x8,At,ct,(by rw[HA.out];exact putL_setB 29 _ _ rfl rfl a0),Lib.hid (fun h=>h0.out ((upd_other L 3 0 (by decide)).symm.trans h)),Lib.hid (fun h=>h1.out ((upd_other L 3 1 (by decide)).symm.trans h)),Lib.hid (fun h=>h2.out ((upd_other L 3 2 (by decide)).symm.trans h)),Lib.hid (fun _=>rfl),Lib.hid (fun h=>h4.out ((upd_other L 3 4 (by decide)).symm.trans h)),Lib.hid (fun h=>h5.out ((upd_other L 3 5 (by decide)).symm.trans h)),Lib.hid (fun h=>h6.out ((upd_other L 3 6 (by decide)).symm.trans h)),Lib.hid (fun h=>h7.out ((upd_other L 3 7 (by decide)).symm.trans h)),Lib.hid (fun h=>h8.out ((upd_other L 3 8 (by decide)).symm.trans h)),Lib.hid (fun h=>h9.out ((upd_other L 3 9 (by decide)).symm.trans h)),Lib.hid (fun h=>h10.out ((upd_other L 3 10 (by decide)).symm.trans h)),Lib.hid (fun h=>h11.out ((upd_other L 3 11 (by decide)).symm.trans h)),Lib.hid (fun h=>h12.out ((upd_other L 3 12 (by decide)).symm.trans h)),Lib.hid (fun h=>h13.out ((upd_other L 3 13 (by decide)).symm.trans h)),Lib.hid (fun h=>h14.out ((upd_other L 3 14 (by decide)).symm.trans h)),Lib.hid (fun h=>(upd_other L 3 9 (by decide)).trans (d10.out ((upd_other L 3 10 (by decide)).symm.trans h))),Lib.hid (fun h=>(upd_other L 3 9 (by decide)).trans (d11.out ((upd_other L 3 11 (by decide)).symm.trans h))),Lib.hid (fun h=>(upd_other L 3 9 (by decide)).trans (d13.out ((upd_other L 3 13 (by decide)).symm.trans h))),wb,Lib.hid (fun h=>wt.out ((upd_other L 3 9 (by decide)).symm.trans h))⟩
  refine steps_cons (fun L a' wx KK hK hL hP hI=>?_) ?_
  ·obtain⟨x26,x27,x28,x29,x30,x31,x32,x33,x34,x35,x25,x36,x37,x7,x8,At,ct,ha,h0,h1,h2,h3,h4,h5,h6,h7,h8,h9,h10,h11,h12,h13,h14,d10,d11,d13,wb,wt⟩:=hI
   have e6:a'.eval (.tmp 6)= .string s:=by rw[ha];exact(eval_old a0 6 [(26,x26),(27,x27),(28,x28),(29,x29),(30,x30),(31,x31),(32,x32),(33,x33),(34,x34),(35,x35),(25,x25),(36,x36),(37,x37),(7,x7),(8,x8)] rfl).trans o6
   have t6:a'.tmps[6]?.getD undef= .string s:=by simpa[Act.eval] using e6
   have HA:=Lib.hid ha
   clear ha
   unfold Oper.wp
   simp only[execOp,e6]
   go_simp
   exact hK _ _ ⟨x26,x27,x28,x29,.string s,x31,x32,x33,x34,x35,x25,x36,x37,x7,x8,At,ct,(by rw[HA.out];exact putL_setB 30 _ _ rfl rfl a0),Lib.hid (fun h=>h0.out ((upd_other L 4 0 (by decide)).symm.trans h)),Lib.hid (fun h=>h1.out ((upd_other L 4 1 (by decide)).symm.trans h)),Lib.hid (fun h=>h2.out ((upd_other L 4 2 (by decide)).symm.trans h)),Lib.hid (fun h=>h3.out ((upd_other L 4 3 (by decide)).symm.trans h)),Lib.hid (fun _=>rfl),Lib.hid (fun h=>h5.out ((upd_other L 4 5 (by decide)).symm.trans h)),Lib.hid (fun h=>h6.out ((upd_other L 4 6 (by decide)).symm.trans h)),Lib.hid (fun h=>h7.out ((upd_other L 4 7 (by decide)).symm.trans h)),Lib.hid (fun h=>h8.out ((upd_other L 4 8 (by decide)).symm.trans h)),Lib.hid (fun h=>h9.out ((upd_other L 4 9 (by decide)).symm.trans h)),Lib.hid (fun h=>h10.out ((upd_other L 4 10 (by decide)).symm.trans h)),Lib.hid (fun h=>h11.out ((upd_other L 4 11 (by decide)).symm.trans h)),Lib.hid (fun h=>h12.out ((upd_other L 4 12 (by decide)).symm.trans h)),Lib.hid (fun h=>h13.out ((upd_other L 4 13 (by decide)).symm.trans h)),Lib.hid (fun h=>h14.out ((upd_other L 4 14 (by decide)).symm.trans h)),Lib.hid (fun h=>(upd_other L 4 9 (by decide)).trans (d10.out ((upd_other L 4 10 (by decide)).symm.trans h))),Lib.hid (fun h=>(upd_other L 4 9 (by decide)).trans (d11.out ((upd_other L 4 11 (by decide)).symm.trans h))),Lib.hid (fun h=>(upd_other L 4 9 (by decide)).trans (d13.out ((upd_other L 4 13 (by decide)).symm.trans h))),wb,Lib.hid (fun h=>wt.out ((upd_other L 4 9 (by decide)).symm.trans h))⟩
  refine steps_cons (fun L a' wx KK hK hL hP hI=>?_) ?_
  ·obtain⟨x26,x27,x28,x29,x30,x31,x32,x33,x34,x35,x25,x36,x37,x7,x8,At,ct,ha,h0,h1,h2,h3,h4,h5,h6,h7,h8,h9,h10,h11,h12,h13,h14,d10,d11,d13,wb,wt⟩:=hI
   have e0:a'.eval (.tmp 0)= .pointer (some ⟨X,0,none⟩):=by rw[ha];exact(eval_old a0 0 [(26,x26),(27,x27),(28,x28),(29,x29),(30,x30),(31,x31),(32,x32),(33,x33),(34,x34),(35,x35),(25,x25),(36,x36),(37,x37),(7,x7),(8,x8)] rfl).trans o0
   have t0:a'.tmps[0]?.getD undef= .pointer (some ⟨X,0,none⟩):=by simpa[Act.eval] using e0
   have HA:=Lib.hid ha
   clear ha
   unfold Oper.wp
   simp only[execOp,e0]
   go_simp
   exact hK _ _ ⟨x26,x27,x28,x29,x30,.pointer (some ⟨X,0,none⟩),x32,x33,x34,x35,x25,x36,x37,x7,x8,At,ct,(by rw[HA.out];exact putL_setB 31 _ _ rfl rfl a0),Lib.hid (fun h=>h0.out ((upd_other L 5 0 (by decide)).symm.trans h)),Lib.hid (fun h=>h1.out ((upd_other L 5 1 (by decide)).symm.trans h)),Lib.hid (fun h=>h2.out ((upd_other L 5 2 (by decide)).symm.trans h)),Lib.hid (fun h=>h3.out ((upd_other L 5 3 (by decide)).symm.trans h)),Lib.hid (fun h=>h4.out ((upd_other L 5 4 (by decide)).symm.trans h)),Lib.hid (fun _=>rfl),Lib.hid (fun h=>h6.out ((upd_other L 5 6 (by decide)).symm.trans h)),Lib.hid (fun h=>h7.out ((upd_other L 5 7 (by decide)).symm.trans h)),Lib.hid (fun h=>h8.out ((upd_other L 5 8 (by decide)).symm.trans h)),Lib.hid (fun h=>h9.out ((upd_other L 5 9 (by decide)).symm.trans h)),Lib.hid (fun h=>h10.out ((upd_other L 5 10 (by decide)).symm.trans h)),Lib.hid (fun h=>h11.out ((upd_other L 5 11 (by decide)).symm.trans h)),Lib.hid (fun h=>h12.out ((upd_other L 5 12 (by decide)).symm.trans h)),Lib.hid (fun h=>h13.out ((upd_other L 5 13 (by decide)).symm.trans h)),Lib.hid (fun h=>h14.out ((upd_other L 5 14 (by decide)).symm.trans h)),Lib.hid (fun h=>(upd_other L 5 9 (by decide)).trans (d10.out ((upd_other L 5 10 (by decide)).symm.trans h))),Lib.hid (fun h=>(upd_other L 5 9 (by decide)).trans (d11.out ((upd_other L 5 11 (by decide)).symm.trans h))),Lib.hid (fun h=>(upd_other L 5 9 (by decide)).trans (d13.out ((upd_other L 5 13 (by decide)).symm.trans h))),wb,Lib.hid (fun h=>wt.out ((upd_other L 5 9 (by decide)).symm.trans h))⟩
  refine steps_cons (fun L a' wx KK hK hL hP hI=>?_) ?_
  ·obtain⟨x26,x27,x28,x29,x30,x31,x32,x33,x34,x35,x25,x36,x37,x7,x8,At,ct,ha,h0,h1,h2,h3,h4,h5,h6,h7,h8,h9,h10,h11,h12,h13,h14,d10,d11,d13,wb,wt⟩:=hI
   have p5:L 5=true:=pre_mem hP 5 (by decide)
   obtain rfl:=h5.out p5
   have v31:a'.eval (.tmp 31)= .pointer (some ⟨X,0,none⟩):=by rw[ha];exact eval_new a0 31 _ (by rw[hn0];decide) _ (rfl:slotB 31 [(26,x26),(27,x27),(28,x28),(29,x29),(30,x30),(31,.pointer (some ⟨X,0,none⟩)),(32,x32),(33,x33),(34,x34),(35,x35),(25,x25),(36,x36),(37,x37),(7,x7),(8,x8)]=_)
   have s31:a'.tmps[31]?.getD undef= .pointer (some ⟨X,0,none⟩):=by simpa[Act.eval] using v31
   have HA:=Lib.hid ha
   clear ha
   unfold Oper.wp
   simp only[execOp,v31]
   go_simp
   exact hK _ _ ⟨x26,x27,x28,x29,x30,.pointer (some ⟨X,0,none⟩),.pointer (some ⟨X,0,none⟩),x33,x34,x35,x25,x36,x37,x7,x8,At,ct,(by rw[HA.out];exact putL_setB 32 _ _ rfl rfl a0),Lib.hid (fun h=>h0.out ((upd_other L 6 0 (by decide)).symm.trans h)),Lib.hid (fun h=>h1.out ((upd_other L 6 1 (by decide)).symm.trans h)),Lib.hid (fun h=>h2.out ((upd_other L 6 2 (by decide)).symm.trans h)),Lib.hid (fun h=>h3.out ((upd_other L 6 3 (by decide)).symm.trans h)),Lib.hid (fun h=>h4.out ((upd_other L 6 4 (by decide)).symm.trans h)),Lib.hid (fun h=>h5.out ((upd_other L 6 5 (by decide)).symm.trans h)),Lib.hid (fun _=>rfl),Lib.hid (fun h=>h7.out ((upd_other L 6 7 (by decide)).symm.trans h)),Lib.hid (fun h=>h8.out ((upd_other L 6 8 (by decide)).symm.trans h)),Lib.hid (fun h=>h9.out ((upd_other L 6 9 (by decide)).symm.trans h)),Lib.hid (fun h=>h10.out ((upd_other L 6 10 (by decide)).symm.trans h)),Lib.hid (fun h=>h11.out ((upd_other L 6 11 (by decide)).symm.trans h)),Lib.hid (fun h=>h12.out ((upd_other L 6 12 (by decide)).symm.trans h)),Lib.hid (fun h=>h13.out ((upd_other L 6 13 (by decide)).symm.trans h)),Lib.hid (fun h=>h14.out ((upd_other L 6 14 (by decide)).symm.trans h)),Lib.hid (fun h=>(upd_other L 6 9 (by decide)).trans (d10.out ((upd_other L 6 10 (by decide)).symm.trans h))),Lib.hid (fun h=>(upd_other L 6 9 (by decide)).trans (d11.out ((upd_other L 6 11 (by decide)).symm.trans h))),Lib.hid (fun h=>(upd_other L 6 9 (by decide)).trans (d13.out ((upd_other L 6 13 (by decide)).symm.trans h))),wb,Lib.hid (fun h=>wt.out ((upd_other L 6 9 (by decide)).symm.trans h))⟩
  refine steps_cons (fun L a' wx KK hK hL hP hI=>?_) ?_
  ·obtain⟨x26,x27,x28,x29,x30,x31,x32,x33,x34,x35,x25,x36,x37,x7,x8,At,ct,ha,h0,h1,h2,h3,h4,h5,h6,h7,h8,h9,h10,h11,h12,h13,h14,d10,d11,d13,wb,wt⟩:=hI
   have p6:L 6=true:=pre_mem hP 6 (by decide)
   obtain rfl:=h6.out p6
   have v32:a'.eval (.tmp 32)= .pointer (some ⟨X,0,none⟩):=by rw[ha];exact eval_new a0 32 _ (by rw[hn0];decide) _ (rfl:slotB 32 [(26,x26),(27,x27),(28,x28),(29,x29),(30,x30),(31,x31),(32,.pointer (some ⟨X,0,none⟩)),(33,x33),(34,x34),(35,x35),(25,x25),(36,x36),(37,x37),(7,x7),(8,x8)]=_)
   have s32:a'.tmps[32]?.getD undef= .pointer (some ⟨X,0,none⟩):=by simpa[Act.eval] using v32
   have HA:=Lib.hid ha
   clear ha
   unfold Oper.wp
   simp only[execOp,v32]
   go_simp
   exact hK _ _ ⟨x26,x27,x28,x29,x30,x31,.pointer (some ⟨X,0,none⟩),.pointer (some ⟨X,0,none⟩),x34,x35,x25,x36,x37,x7,x8,At,ct,(by rw[HA.out];exact putL_setB 33 _ _ rfl rfl a0),Lib.hid (fun h=>h0.out ((upd_other L 7 0 (by decide)).symm.trans h)),Lib.hid (fun h=>h1.out ((upd_other L 7 1 (by decide)).symm.trans h)),Lib.hid (fun h=>h2.out ((upd_other L 7 2 (by decide)).symm.trans h)),Lib.hid (fun h=>h3.out ((upd_other L 7 3 (by decide)).symm.trans h)),Lib.hid (fun h=>h4.out ((upd_other L 7 4 (by decide)).symm.trans h)),Lib.hid (fun h=>h5.out ((upd_other L 7 5 (by decide)).symm.trans h)),Lib.hid (fun h=>h6.out ((upd_other L 7 6 (by decide)).symm.trans h)),Lib.hid (fun _=>rfl),Lib.hid (fun h=>h8.out ((upd_other L 7 8 (by decide)).symm.trans h)),Lib.hid (fun h=>h9.out ((upd_other L 7 9 (by decide)).symm.trans h)),Lib.hid (fun h=>h10.out ((upd_other L 7 10 (by decide)).symm.trans h)),Lib.hid (fun h=>h11.out ((upd_other L 7 11 (by decide)).symm.trans h)),Lib.hid (fun h=>h12.out ((upd_other L 7 12 (by decide)).symm.trans h)),Lib.hid (fun h=>h13.out ((upd_other L 7 13 (by decide)).symm.trans h)),Lib.hid (fun h=>h14.out ((upd_other L 7 14 (by decide)).symm.trans h)),Lib.hid (fun h=>(upd_other L 7 9 (by decide)).trans (d10.out ((upd_other L 7 10 (by decide)).symm.trans h))),Lib.hid (fun h=>(upd_other L 7 9 (by decide)).trans (d11.out ((upd_other L 7 11 (by decide)).symm.trans h))),Lib.hid (fun h=>(upd_other L 7 9 (by decide)).trans (d13.out ((upd_other L 7 13 (by decide)).symm.trans h))),wb,Lib.hid (fun h=>wt.out ((upd_other L 7 9 (by decide)).symm.trans h))⟩
  refine steps_cons (fun L a' wx KK hK hL hP hI=>?_) ?_
  ·obtain⟨x26,x27,x28,x29,x30,x31,x32,x33,x34,x35,x25,x36,x37,x7,x8,At,ct,ha,h0,h1,h2,h3,h4,h5,h6,h7,h8,h9,h10,h11,h12,h13,h14,d10,d11,d13,wb,wt⟩:=hI
   have p7:L 7=true:=pre_mem hP 7 (by decide)
   obtain rfl:=h7.out p7
   have v33:a'.eval (.tmp 33)= .pointer (some ⟨X,0,none⟩):=by rw[ha];exact eval_new a0 33 _ (by rw[hn0];decide) _ (rfl:slotB 33 [(26,x26),(27,x27),(28,x28),(29,x29),(30,x30),(31,x31),(32,x32),(33,.pointer (some ⟨X,0,none⟩)),(34,x34),(35,x35),(25,x25),(36,x36),(37,x37),(7,x7),(8,x8)]=_)
   have s33:a'.tmps[33]?.getD undef= .pointer (some ⟨X,0,none⟩):=by simpa[Act.eval] using v33
   have HA:=Lib.hid ha
   clear ha
   unfold Oper.wp
   simp only[execOp,v33]
   have ck:=(HE1.out.below wb.out).c0
   go_simp
   exact hK _ _ ⟨x26,x27,x28,x29,x30,x31,x32,.pointer (some ⟨X,0,none⟩),.int .i64 level,x35,x25,x36,x37,x7,x8,At,ct,(by rw[HA.out];exact putL_setB 34 _ _ rfl rfl a0),Lib.hid (fun h=>h0.out ((upd_other L 8 0 (by decide)).symm.trans h)),Lib.hid (fun h=>h1.out ((upd_other L 8 1 (by decide)).symm.trans h)),Lib.hid (fun h=>h2.out ((upd_other L 8 2 (by decide)).symm.trans h)),Lib.hid (fun h=>h3.out ((upd_other L 8 3 (by decide)).symm.trans h)),Lib.hid (fun h=>h4.out ((upd_other L 8 4 (by decide)).symm.trans h)),Lib.hid (fun h=>h5.out ((upd_other L 8 5 (by decide)).symm.trans h)),Lib.hid (fun h=>h6.out ((upd_other L 8 6 (by decide)).symm.trans h)),Lib.hid (fun h=>h7.out ((upd_other L 8 7 (by decide)).symm.trans h)),Lib.hid (fun _=>rfl),Lib.hid (fun h=>h9.out ((upd_other L 8 9 (by decide)).symm.trans h)),Lib.hid (fun h=>h10.out ((upd_other L 8 10 (by decide)).symm.trans h)),Lib.hid (fun h=>h11.out ((upd_other L 8 11 (by decide)).symm.trans h)),Lib.hid (fun h=>h12.out ((upd_other L 8 12 (by decide)).symm.trans h)),Lib.hid (fun h=>h13.out ((upd_other L 8 13 (by decide)).symm.trans h)),Lib.hid (fun h=>h14.out ((upd_other L 8 14 (by decide)).symm.trans h)),Lib.hid (fun h=>(upd_other L 8 9 (by decide)).trans (d10.out ((upd_other L 8 10 (by decide)).symm.trans h))),Lib.hid (fun h=>(upd_other L 8 9 (by decide)).trans (d11.out ((upd_other L 8 11 (by decide)).symm.trans h))),Lib.hid (fun h=>(upd_other L 8 9 (by decide)).trans (d13.out ((upd_other L 8 13 (by decide)).symm.trans h))),wb,Lib.hid (fun h=>wt.out ((upd_other L 8 9 (by decide)).symm.trans h))⟩
  refine steps_cons (fun L a' wx KK hK hL hP hI=>?_) ?_
  ·obtain⟨x26,x27,x28,x29,x30,x31,x32,x33,x34,x35,x25,x36,x37,x7,x8,At,ct,ha,h0,h1,h2,h3,h4,h5,h6,h7,h8,h9,h10,h11,h12,h13,h14,d10,d11,d13,wb,wt⟩:=hI
   have p3:L 3=true:=pre_mem hP 3 (by decide)
   obtain rfl:=h3.out p3
   have p4:L 4=true:=pre_mem hP 4 (by decide)
   obtain rfl:=h4.out p4
   have p8:L 8=true:=pre_mem hP 8 (by decide)
   obtain rfl:=h8.out p8
   have v29:a'.eval (.tmp 29)= .string a:=by rw[ha];exact eval_new a0 29 _ (by rw[hn0];decide) _ (rfl:slotB 29 [(26,x26),(27,x27),(28,x28),(29,.string a),(30,.string s),(31,x31),(32,x32),(33,x33),(34,.int .i64 level),(35,x35),(25,x25),(36,x36),(37,x37),(7,x7),(8,x8)]=_)
   have s29:a'.tmps[29]?.getD undef= .string a:=by simpa[Act.eval] using v29
   have v30:a'.eval (.tmp 30)= .string s:=by rw[ha];exact eval_new a0 30 _ (by rw[hn0];decide) _ (rfl:slotB 30 [(26,x26),(27,x27),(28,x28),(29,.string a),(30,.string s),(31,x31),(32,x32),(33,x33),(34,.int .i64 level),(35,x35),(25,x25),(36,x36),(37,x37),(7,x7),(8,x8)]=_)
   have s30:a'.tmps[30]?.getD undef= .string s:=by simpa[Act.eval] using v30
   have v34:a'.eval (.tmp 34)= .int .i64 level:=by rw[ha];exact eval_new a0 34 _ (by rw[hn0];decide) _ (rfl:slotB 34 [(26,x26),(27,x27),(28,x28),(29,.string a),(30,.string s),(31,x31),(32,x32),(33,x33),(34,.int .i64 level),(35,x35),(25,x25),(36,x36),(37,x37),(7,x7),(8,x8)]=_)
   have s34:a'.tmps[34]?.getD undef= .int .i64 level:=by simpa[Act.eval] using v34
   have HA:=Lib.hid ha
   clear ha
   unfold Oper.wp
   simp only[execOp,v29,v30,v34]
   go_simp
   refine(HTK.out _ wb.out).mono ?_
   rintro e Wl ⟨vt,rfl,ho,hb⟩
   obtain⟨A2,c2,rfl⟩:=own_form ho
   exact hK _ _ ⟨x26,x27,x28,.string a,.string s,x31,x32,x33,.int .i64 level,.tuple #[.slice A2 (tokP a s level).length c2,.int .i64 0],x25,x36,x37,x7,x8,A2,c2,(by rw[HA.out];exact putL_setB 35 _ _ rfl rfl a0),Lib.hid (fun h=>h0.out ((upd_other L 9 0 (by decide)).symm.trans h)),Lib.hid (fun h=>h1.out ((upd_other L 9 1 (by decide)).symm.trans h)),Lib.hid (fun h=>h2.out ((upd_other L 9 2 (by decide)).symm.trans h)),Lib.hid (fun h=>h3.out ((upd_other L 9 3 (by decide)).symm.trans h)),Lib.hid (fun h=>h4.out ((upd_other L 9 4 (by decide)).symm.trans h)),Lib.hid (fun h=>h5.out ((upd_other L 9 5 (by decide)).symm.trans h)),Lib.hid (fun h=>h6.out ((upd_other L 9 6 (by decide)).symm.trans h)),Lib.hid (fun h=>h7.out ((upd_other L 9 7 (by decide)).symm.trans h)),Lib.hid (fun h=>h8.out ((upd_other L 9 8 (by decide)).symm.trans h)),Lib.hid (fun _=>rfl),Lib.hid (fun h=>by have h2:=d10.out ((upd_other L 9 10 (by decide)).symm.trans h);rw[hL]at h2;cases h2),Lib.hid (fun h=>by have h2:=d11.out ((upd_other L 9 11 (by decide)).symm.trans h);rw[hL]at h2;cases h2),Lib.hid (fun h=>h12.out ((upd_other L 9 12 (by decide)).symm.trans h)),Lib.hid (fun h=>by have h2:=d13.out ((upd_other L 9 13 (by decide)).symm.trans h);rw[hL]at h2;cases h2),Lib.hid (fun h=>h14.out ((upd_other L 9 14 (by decide)).symm.trans h)),Lib.hid (fun _=>upd_same L 9),Lib.hid (fun _=>upd_same L 9),Lib.hid (fun _=>upd_same L 9),Lib.hid (wb.out.trans (hb.mono wb.out.size)),Lib.hid (fun _=>own_base ho wb.out.size)⟩
  refine steps_cons (fun L a' wx KK hK hL hP hI=>?_) ?_
  ·obtain⟨x26,x27,x28,x29,x30,x31,x32,x33,x34,x35,x25,x36,x37,x7,x8,At,ct,ha,h0,h1,h2,h3,h4,h5,h6,h7,h8,h9,h10,h11,h12,h13,h14,d10,d11,d13,wb,wt⟩:=hI
   have p9:L 9=true:=pre_mem hP 9 (by decide)
   obtain rfl:=h9.out p9
   have v35:a'.eval (.tmp 35)= .tuple #[.slice At (tokP a s level).length ct,.int .i64 0]:=by rw[ha];exact eval_new a0 35 _ (by rw[hn0];decide) _ (rfl:slotB 35 [(26,x26),(27,x27),(28,x28),(29,x29),(30,x30),(31,x31),(32,x32),(33,x33),(34,x34),(35,.tuple #[.slice At (tokP a s level).length ct,.int .i64 0]),(25,x25),(36,x36),(37,x37),(7,x7),(8,x8)]=_)
   have s35:a'.tmps[35]?.getD undef= .tuple #[.slice At (tokP a s level).length ct,.int .i64 0]:=by simpa[Act.eval] using v35
   have HA:=Lib.hid ha
   clear ha
   unfold Oper.wp
   simp only[execOp,v35]
   go_simp
   exact hK _ _ ⟨x26,x27,x28,x29,x30,x31,x32,x33,x34,.tuple #[.slice At (tokP a s level).length ct,.int .i64 0],.tuple #[.slice At (tokP a s level).length ct,.int .i64 0],x36,x37,x7,x8,At,ct,(by rw[HA.out];exact putL_setB 25 _ _ rfl rfl a0),Lib.hid (fun h=>h0.out ((upd_other L 10 0 (by decide)).symm.trans h)),Lib.hid (fun h=>h1.out ((upd_other L 10 1 (by decide)).symm.trans h)),Lib.hid (fun h=>h2.out ((upd_other L 10 2 (by decide)).symm.trans h)),Lib.hid (fun h=>h3.out ((upd_other L 10 3 (by decide)).symm.trans h)),Lib.hid (fun h=>h4.out ((upd_other L 10 4 (by decide)).symm.trans h)),Lib.hid (fun h=>h5.out ((upd_other L 10 5 (by decide)).symm.trans h)),Lib.hid (fun h=>h6.out ((upd_other L 10 6 (by decide)).symm.trans h)),Lib.hid (fun h=>h7.out ((upd_other L 10 7 (by decide)).symm.trans h)),Lib.hid (fun h=>h8.out ((upd_other L 10 8 (by decide)).symm.trans h)),Lib.hid (fun h=>h9.out ((upd_other L 10 9 (by decide)).symm.trans h)),Lib.hid (fun _=>rfl),Lib.hid (fun h=>h11.out ((upd_other L 10 11 (by decide)).symm.trans h)),Lib.hid (fun h=>h12.out ((upd_other L 10 12 (by decide)).symm.trans h)),Lib.hid (fun h=>h13.out ((upd_other L 10 13 (by decide)).symm.trans h)),Lib.hid (fun h=>h14.out ((upd_other L 10 14 (by decide)).symm.trans h)),Lib.hid (fun _=>(upd_other L 10 9 (by decide)).trans p9),Lib.hid (fun h=>(upd_other L 10 9 (by decide)).trans (d11.out ((upd_other L 10 11 (by decide)).symm.trans h))),Lib.hid (fun h=>(upd_other L 10 9 (by decide)).trans (d13.out ((upd_other L 10 13 (by decide)).symm.trans h))),wb,Lib.hid (fun h=>wt.out ((upd_other L 10 9 (by decide)).symm.trans h))⟩
  refine steps_cons (fun L a' wx KK hK hL hP hI=>?_) ?_
  ·obtain⟨x26,x27,x28,x29,x30,x31,x32,x33,x34,x35,x25,x36,x37,x7,x8,At,ct,ha,h0,h1,h2,h3,h4,h5,h6,h7,h8,h9,h10,h11,h12,h13,h14,d10,d11,d13,wb,wt⟩:=hI
   have p10:L 10=true:=pre_mem hP 10 (by decide)
   obtain rfl:=h10.out p10
   have v25:a'.eval (.tmp 25)= .tuple #[.slice At (tokP a s level).length ct,.int .i64 0]:=by rw[ha];exact eval_new a0 25 _ (by rw[hn0];decide) _ (rfl:slotB 25 [(26,x26),(27,x27),(28,x28),(29,x29),(30,x30),(31,x31),(32,x32),(33,x33),(34,x34),(35,x35),(25,.tuple #[.slice At (tokP a s level).length ct,.int .i64 0]),(36,x36),(37,x37),(7,x7),(8,x8)]=_)
   have s25:a'.tmps[25]?.getD undef= .tuple #[.slice At (tokP a s level).length ct,.int .i64 0]:=by simpa[Act.eval] using v25
   have HA:=Lib.hid ha
   clear ha
   unfold Oper.wp
   simp only[execOp,v25]
   have p9:=d10.out p10
   go_simp
   exact hK _ _ ⟨x26,x27,x28,x29,x30,x31,x32,x33,x34,x35,.tuple #[.slice At (tokP a s level).length ct,.int .i64 0],.slice At (tokP a s level).length ct,x37,x7,x8,At,ct,(by rw[HA.out];exact putL_setB 36 _ _ rfl rfl a0),Lib.hid (fun h=>h0.out ((upd_other L 11 0 (by decide)).symm.trans h)),Lib.hid (fun h=>h1.out ((upd_other L 11 1 (by decide)).symm.trans h)),Lib.hid (fun h=>h2.out ((upd_other L 11 2 (by decide)).symm.trans h)),Lib.hid (fun h=>h3.out ((upd_other L 11 3 (by decide)).symm.trans h)),Lib.hid (fun h=>h4.out ((upd_other L 11 4 (by decide)).symm.trans h)),Lib.hid (fun h=>h5.out ((upd_other L 11 5 (by decide)).symm.trans h)),Lib.hid (fun h=>h6.out ((upd_other L 11 6 (by decide)).symm.trans h)),Lib.hid (fun h=>h7.out ((upd_other L 11 7 (by decide)).symm.trans h)),Lib.hid (fun h=>h8.out ((upd_other L 11 8 (by decide)).symm.trans h)),Lib.hid (fun h=>h9.out ((upd_other L 11 9 (by decide)).symm.trans h)),Lib.hid (fun h=>h10.out ((upd_other L 11 10 (by decide)).symm.trans h)),Lib.hid (fun _=>rfl),Lib.hid (fun h=>h12.out ((upd_other L 11 12 (by decide)).symm.trans h)),Lib.hid (fun h=>h13.out ((upd_other L 11 13 (by decide)).symm.trans h)),Lib.hid (fun h=>h14.out ((upd_other L 11 14 (by decide)).symm.trans h)),Lib.hid (fun h=>(upd_other L 11 9 (by decide)).trans (d10.out ((upd_other L 11 10 (by decide)).symm.trans h))),Lib.hid (fun _=>(upd_other L 11 9 (by decide)).trans p9),Lib.hid (fun h=>(upd_other L 11 9 (by decide)).trans (d13.out ((upd_other L 11 13 (by decide)).symm.trans h))),wb,Lib.hid (fun h=>wt.out ((upd_other L 11 9 (by decide)).symm.trans h))⟩
  refine steps_cons (fun L a' wx KK hK hL hP hI=>?_) ?_
  ·obtain⟨x26,x27,x28,x29,x30,x31,x32,x33,x34,x35,x25,x36,x37,x7,x8,At,ct,ha,h0,h1,h2,h3,h4,h5,h6,h7,h8,h9,h10,h11,h12,h13,h14,d10,d11,d13,wb,wt⟩:=hI
   have p10:L 10=true:=pre_mem hP 10 (by decide)
   obtain rfl:=h10.out p10
   have v25:a'.eval (.tmp 25)= .tuple #[.slice At (tokP a s level).length ct,.int .i64 0]:=by rw[ha];exact eval_new a0 25 _ (by rw[hn0];decide) _ (rfl:slotB 25 [(26,x26),(27,x27),(28,x28),(29,x29),(30,x30),(31,x31),(32,x32),(33,x33),(34,x34),(35,x35),(25,.tuple #[.slice At (tokP a s level).length ct,.int .i64 0]),(36,x36),(37,x37),(7,x7),(8,x8)]=_)
   have s25:a'.tmps[25]?.getD undef= .tuple #[.slice At (tokP a s level).length ct,.int .i64 0]:=by simpa[Act.eval] using v25
   have HA:=Lib.hid ha
   clear ha
   unfold Oper.wp
   simp only[execOp,v25]
   go_simp
   exact hK _ _ ⟨x26,x27,x28,x29,x30,x31,x32,x33,x34,x35,.tuple #[.slice At (tokP a s level).length ct,.int .i64 0],x36,.int .i64 0,x7,x8,At,ct,(by rw[HA.out];exact putL_setB 37 _ _ rfl rfl a0),Lib.hid (fun h=>h0.out ((upd_other L 12 0 (by decide)).symm.trans h)),Lib.hid (fun h=>h1.out ((upd_other L 12 1 (by decide)).symm.trans h)),Lib.hid (fun h=>h2.out ((upd_other L 12 2 (by decide)).symm.trans h)),Lib.hid (fun h=>h3.out ((upd_other L 12 3 (by decide)).symm.trans h)),Lib.hid (fun h=>h4.out ((upd_other L 12 4 (by decide)).symm.trans h)),Lib.hid (fun h=>h5.out ((upd_other L 12 5 (by decide)).symm.trans h)),Lib.hid (fun h=>h6.out ((upd_other L 12 6 (by decide)).symm.trans h)),Lib.hid (fun h=>h7.out ((upd_other L 12 7 (by decide)).symm.trans h)),Lib.hid (fun h=>h8.out ((upd_other L 12 8 (by decide)).symm.trans h)),Lib.hid (fun h=>h9.out ((upd_other L 12 9 (by decide)).symm.trans h)),Lib.hid (fun h=>h10.out ((upd_other L 12 10 (by decide)).symm.trans h)),Lib.hid (fun h=>h11.out ((upd_other L 12 11 (by decide)).symm.trans h)),Lib.hid (fun _=>rfl),Lib.hid (fun h=>h13.out ((upd_other L 12 13 (by decide)).symm.trans h)),Lib.hid (fun h=>h14.out ((upd_other L 12 14 (by decide)).symm.trans h)),Lib.hid (fun h=>(upd_other L 12 9 (by decide)).trans (d10.out ((upd_other L 12 10 (by decide)).symm.trans h))),Lib.hid (fun h=>(upd_other L 12 9 (by decide)).trans (d11.out ((upd_other L 12 11 (by decide)).symm.trans h))),Lib.hid (fun h=>(upd_other L 12 9 (by decide)).trans (d13.out ((upd_other L 12 13 (by decide)).symm.trans h))),wb,Lib.hid (fun h=>wt.out ((upd_other L 12 9 (by decide)).symm.trans h))⟩
  refine steps_cons (fun L a' wx KK hK hL hP hI=>?_) ?_
  ·obtain⟨x26,x27,x28,x29,x30,x31,x32,x33,x34,x35,x25,x36,x37,x7,x8,At,ct,ha,h0,h1,h2,h3,h4,h5,h6,h7,h8,h9,h10,h11,h12,h13,h14,d10,d11,d13,wb,wt⟩:=hI
   have p11:L 11=true:=pre_mem hP 11 (by decide)
   obtain rfl:=h11.out p11
   have v36:a'.eval (.tmp 36)= .slice At (tokP a s level).length ct:=by rw[ha];exact eval_new a0 36 _ (by rw[hn0];decide) _ (rfl:slotB 36 [(26,x26),(27,x27),(28,x28),(29,x29),(30,x30),(31,x31),(32,x32),(33,x33),(34,x34),(35,x35),(25,x25),(36,.slice At (tokP a s level).length ct),(37,x37),(7,x7),(8,x8)]=_)
   have s36:a'.tmps[36]?.getD undef= .slice At (tokP a s level).length ct:=by simpa[Act.eval] using v36
   have HA:=Lib.hid ha
   clear ha
   unfold Oper.wp
   simp only[execOp,v36]
   have p9:=d11.out p11
   go_simp
   exact hK _ _ ⟨x26,x27,x28,x29,x30,x31,x32,x33,x34,x35,x25,.slice At (tokP a s level).length ct,x37,.slice At (tokP a s level).length ct,x8,At,ct,(by rw[HA.out];exact putL_setB 7 _ _ rfl rfl a0),Lib.hid (fun h=>h0.out ((upd_other L 13 0 (by decide)).symm.trans h)),Lib.hid (fun h=>h1.out ((upd_other L 13 1 (by decide)).symm.trans h)),Lib.hid (fun h=>h2.out ((upd_other L 13 2 (by decide)).symm.trans h)),Lib.hid (fun h=>h3.out ((upd_other L 13 3 (by decide)).symm.trans h)),Lib.hid (fun h=>h4.out ((upd_other L 13 4 (by decide)).symm.trans h)),Lib.hid (fun h=>h5.out ((upd_other L 13 5 (by decide)).symm.trans h)),Lib.hid (fun h=>h6.out ((upd_other L 13 6 (by decide)).symm.trans h)),Lib.hid (fun h=>h7.out ((upd_other L 13 7 (by decide)).symm.trans h)),Lib.hid (fun h=>h8.out ((upd_other L 13 8 (by decide)).symm.trans h)),Lib.hid (fun h=>h9.out ((upd_other L 13 9 (by decide)).symm.trans h)),Lib.hid (fun h=>h10.out ((upd_other L 13 10 (by decide)).symm.trans h)),Lib.hid (fun h=>h11.out ((upd_other L 13 11 (by decide)).symm.trans h)),Lib.hid (fun h=>h12.out ((upd_other L 13 12 (by decide)).symm.trans h)),Lib.hid (fun _=>rfl),Lib.hid (fun h=>h14.out ((upd_other L 13 14 (by decide)).symm.trans h)),Lib.hid (fun h=>(upd_other L 13 9 (by decide)).trans (d10.out ((upd_other L 13 10 (by decide)).symm.trans h))),Lib.hid (fun h=>(upd_other L 13 9 (by decide)).trans (d11.out ((upd_other L 13 11 (by decide)).symm.trans h))),Lib.hid (fun _=>(upd_other L 13 9 (by decide)).trans p9),wb,Lib.hid (fun h=>wt.out ((upd_other L 13 9 (by decide)).symm.trans h))⟩
  refine steps_cons (fun L a' wx KK hK hL hP hI=>?_) ?_
  ·obtain⟨x26,x27,x28,x29,x30,x31,x32,x33,x34,x35,x25,x36,x37,x7,x8,At,ct,ha,h0,h1,h2,h3,h4,h5,h6,h7,h8,h9,h10,h11,h12,h13,h14,d10,d11,d13,wb,wt⟩:=hI
   have p12:L 12=true:=pre_mem hP 12 (by decide)
   obtain rfl:=h12.out p12
   have v37:a'.eval (.tmp 37)= .int .i64 0:=by rw[ha];exact eval_new a0 37 _ (by rw[hn0];decide) _ (rfl:slotB 37 [(26,x26),(27,x27),(28,x28),(29,x29),(30,x30),(31,x31),(32,x32),(33,x33),(34,x34),(35,x35),(25,x25),(36,x36),(37,.int .i64 0),(7,x7),(8,x8)]=_)
   have s37:a'.tmps[37]?.getD undef= .int .i64 0:=by simpa[Act.eval] using v37
   have HA:=Lib.hid ha
   clear ha
   unfold Oper.wp
   simp only[execOp,v37]
   go_simp
   exact hK _ _ ⟨x26,x27,x28,x29,x30,x31,x32,x33,x34,x35,x25,x36,.int .i64 0,x7,.int .i64 0,At,ct,(by rw[HA.out];exact putL_setB 8 _ _ rfl rfl a0),Lib.hid (fun h=>h0.out ((upd_other L 14 0 (by decide)).symm.trans h)),Lib.hid (fun h=>h1.out ((upd_other L 14 1 (by decide)).symm.trans h)),Lib.hid (fun h=>h2.out ((upd_other L 14 2 (by decide)).symm.trans h)),Lib.hid (fun h=>h3.out ((upd_other L 14 3 (by decide)).symm.trans h)),Lib.hid (fun h=>h4.out ((upd_other L 14 4 (by decide)).symm.trans h)),Lib.hid (fun h=>h5.out ((upd_other L 14 5 (by decide)).symm.trans h)),Lib.hid (fun h=>h6.out ((upd_other L 14 6 (by decide)).symm.trans h)),Lib.hid (fun h=>h7.out ((upd_other L 14 7 (by decide)).symm.trans h)),Lib.hid (fun h=>h8.out ((upd_other L 14 8 (by decide)).symm.trans h)),Lib.hid (fun h=>h9.out ((upd_other L 14 9 (by decide)).symm.trans h)),Lib.hid (fun h=>h10.out ((upd_other L 14 10 (by decide)).symm.trans h)),Lib.hid (fun h=>h11.out ((upd_other L 14 11 (by decide)).symm.trans h)),Lib.hid (fun h=>h12.out ((upd_other L 14 12 (by decide)).symm.trans h)),Lib.hid (fun h=>h13.out ((upd_other L 14 13 (by decide)).symm.trans h)),Lib.hid (fun _=>rfl),Lib.hid (fun h=>(upd_other L 14 9 (by decide)).trans (d10.out ((upd_other L 14 10 (by decide)).symm.trans h))),Lib.hid (fun h=>(upd_other L 14 9 (by decide)).trans (d11.out ((upd_other L 14 11 (by decide)).symm.trans h))),Lib.hid (fun h=>(upd_other L 14 9 (by decide)).trans (d13.out ((upd_other L 14 13 (by decide)).symm.trans h))),wb,Lib.hid (fun h=>wt.out ((upd_other L 14 9 (by decide)).symm.trans h))⟩
  exact steps_nil
 ·obtain⟨x26,x27,x28,x29,x30,x31,x32,x33,x34,x35,x25,x36,x37,x7,x8,At,ct,ha,h0,h1,h2,h3,h4,h5,h6,h7,h8,h9,h10,h11,h12,h13,h14,d10,d11,d13,wb,wt⟩:=hI
  rw[ha]
  obtain rfl:=h0.out (hall 0 (by decide))
  obtain rfl:=h1.out (hall 1 (by decide))
  obtain rfl:=h2.out (hall 2 (by decide))
  obtain rfl:=h3.out (hall 3 (by decide))
  obtain rfl:=h4.out (hall 4 (by decide))
  obtain rfl:=h5.out (hall 5 (by decide))
  obtain rfl:=h6.out (hall 6 (by decide))
  obtain rfl:=h7.out (hall 7 (by decide))
  obtain rfl:=h8.out (hall 8 (by decide))
  obtain rfl:=h9.out (hall 9 (by decide))
  obtain rfl:=h10.out (hall 10 (by decide))
  obtain rfl:=h11.out (hall 11 (by decide))
  obtain rfl:=h12.out (hall 12 (by decide))
  obtain rfl:=h13.out (hall 13 (by decide))
  obtain rfl:=h14.out (hall 14 (by decide))
  have ho3:=wt.out (hall 9 (by decide))
  have hb3:=wb.out
  have HE3:=Lib.hid (HE1.out.below hb3)
  have HB3:=Lib.hid (HB1.out.trans (hb3.mono HE1.out.wr.ge.1))
  clear wt wb hall ha h0 h1 h2 h3 h4 h5 h6 h7 h8 h9 h10 h11 h12 h13 h14 d10 d11 d13
  simp only[Ri.putL,List.foldl_cons,List.foldl_nil]
  go_simp
  have HTA:=Lib.hid (tokAt_own ho3)
  have HTR:=Lib.hid (tokR_own ho3)
  have HTB:Hid (TokB wx X At):=Lib.hid (fun g o e=>by
   obtain⟨h1,h2⟩:=tokB_own ho3 (Below.refl _ _) (B:=wx.heap.size) (Nat.le_refl _) g o e
   refine⟨?_,h2⟩
   have h4:=(ho3.lt g (by rw[e];rfl)).1
   have h5:=HE1.out.lt
   omega)
  have HOK:=Lib.hid (tokP_ok a s level)
  have HMY:=Lib.hid (may_tok a s level (by omega))
  have HBK:Hid (blkP level last a s=⟨kindP level s.size (tokP a s level),last,tokP a s level,s⟩):=Lib.hid rfl
  obtain⟨ts,hts⟩:∃ ts,tokP a s level=ts:=⟨_,rfl⟩
  rw[hts]at HTA HOK HMY HBK
  rw[hts]
  clear ho3 hb3 hts
  by_cases h0:level=0
  ·have q1:decide (0<(level:Int))=false:=decide_eq_false (by omega)
   have q1':decide (0<level)=false:=decide_eq_false (by omega)
   have HKK:Hid (kindP level s.size ts=0):=Lib.hid (by unfold kindP;rw[if_pos h0])
   have c0:=HE3.out.c0
   have HK2:Hid (0≤2):=Lib.hid (by decide)
   have HTA4:=HTA
   have HTB4:=HTB
   have HE4:=HE3
   have HB4:=HB3
   clear h0
   go_wp2_with fail
   clear c0
   refine(writex_calls 0 HK2.out last s At ct ts base X 3 v bs wx HTA4.out HTB4.out (fun t ht=>(HOK.out.2.2.1 t ht).2.2) HMY.out HE4.out.wr (HG.out.below HB4.out).1 HG.out.2.2.1 (by have:=HG.out.2.2.1;omega) (by omega)).mono ?_
   rintro e w5 ⟨rfl,v5,hw5,ht5⟩
   have HE5:=Lib.hid (HE4.out.wrote ht5 hw5)
   have HB5:Hid (Below base w w5):=Lib.hid (HB4.out.trans (ht5.below hbX (fun k e=>(HE4.out.wr.ge.2.1 k e).1) HE4.out.wr.ge.1))
   clear hw5 ht5 HTA HTB HTR HTA4 HTB4
   have d1:=HE5.out.c1
   have g1:=HE5.out.f 1
   have s1:a.size≤32768:=by omega
   have s2:s.size≤16384:=by omega
   go_upto_region 8 with fail
   clear d1 g1
   have HE6:=Lib.hid (HE5.out.set1 (a++s))
   have HB6:Hid (Below base w (w5.setCell ⟨X,1,none⟩ (.string (a++s)))):=Lib.hid (HB5.out.setCell (p:=⟨X,1,none⟩) hbX _)
   obtain⟨w6,hw6⟩:∃ w6,w5.setCell ⟨X,1,none⟩ (.string (a++s))=w6:=⟨_,rfl⟩
   rw[hw6]at HE6 HB6 ⊢
   clear hw6
   obtain⟨t,ht⟩:∃ t,a++s=t:=⟨_,rfl⟩
   have HTT:=Lib.hid ht
   have hts2:t.size≤32768:=by rw[← ht,ByteArray.size_append];omega
   rw[ht]at HE6 ⊢
   clear ht
   have d1:=HE6.out.c1
   have g1:=HE6.out.f 1
   have d2:=(HE6.out.below (Go.below_drewN (Below.refl _ _) 1)).c1
   have m0:max ((t.size:Int) - 32768) 0=0:=by omega
   have m1:t.extract 0 t.size=t:=ext_all t
   have m2:IntKind.i64.wrap ((t.size:Int) - 32768)=(t.size:Int) - 32768:=IntWalk.i64_in _ (by omega)
   go_still_tail 15,(by kernel_rfl)
   change wpList _ _ _ _ _ w6.drew
   have HE7:Hid (EncAt w6.drew base X level t r v5 _ closed):=Lib.hid (HE6.out.below (Go.below_drewN (Below.refl _ _) 1))
   have HB7:Hid (Below base w w6.drew):=Lib.hid (Go.below_drewN HB6.out 1)
   clear d1 g1 d2
   generalize w6.drew=w7 at *
   have d3:=HE7.out.c1
   have g3:=HE7.out.f 1
   have HE8:=Lib.hid (HE7.out.set1 t)
   have HB8:Hid (Below base w (w7.setCell ⟨X,1,none⟩ (.string t))):=Lib.hid (HB7.out.setCell (p:=⟨X,1,none⟩) hbX _)
   go_wp2
   refine bodyPost_end (v:= .tuple #[]) (results_none (by kernel_rfl) _ _ _) rfl ⟨rfl,⟨v5,?_⟩,HB8.out⟩
   rw[HS.out,HR.out,HTT.out,HBK.out,HKK.out]
   exact HE8.out
  ·have q1:decide (0<(level:Int))=true:=decide_eq_true (by omega)
   have q1':decide (0<level)=true:=decide_eq_true (by omega)
   obtain⟨K,hK⟩:∃ K,chooseP s.size ts=K:=⟨_,rfl⟩
   have HKK:Hid (kindP level s.size ts=K):=Lib.hid (by unfold kindP;rw[if_neg h0,hK])
   have HK2:Hid (K≤2):=Lib.hid (by rw[← hK];exact choose_le _ _)
   have HCH:=Lib.hid (choose_calls s At ct ts wx HTA.out (by have:=HOK.out.2.2.2;omega) HTR.out (fun t ht=>(HOK.out.2.2.1 t ht).2.2) (HG.out.below HB3.out).1)
   rw[hK]at HCH
   have c0:=HE3.out.c0
   clear h0 hK
   go_wp2_with fail
   refine HCH.out.mono ?_
   rintro e w4 ⟨rfl,hb4⟩
   have HE4:=Lib.hid (HE3.out.below hb4)
   have HB4:=Lib.hid (HB3.out.trans (hb4.mono HE3.out.wr.ge.1))
   have HTA4:=Lib.hid (HTA.out.below hb4)
   have HTB4:=Lib.hid (tokB_below HTB.out hb4)
   clear hb4 c0
   go_wp2_with fail
   refine(writex_calls K HK2.out last s At ct ts base X 3 v bs w4 HTA4.out HTB4.out (fun t ht=>(HOK.out.2.2.1 t ht).2.2) HMY.out HE4.out.wr (HG.out.below HB4.out).1 HG.out.2.2.1 (by have:=HG.out.2.2.1;omega) (by omega)).mono ?_
   rintro e w5 ⟨rfl,v5,hw5,ht5⟩
   have HE5:=Lib.hid (HE4.out.wrote ht5 hw5)
   have HB5:Hid (Below base w w5):=Lib.hid (HB4.out.trans (ht5.below hbX (fun k e=>(HE4.out.wr.ge.2.1 k e).1) HE4.out.wr.ge.1))
   clear hw5 ht5 HTA HTB HTR HTA4 HTB4
   have d1:=HE5.out.c1
   have g1:=HE5.out.f 1
   have s1:a.size≤32768:=by omega
   have s2:s.size≤16384:=by omega
   go_upto_region 8 with fail
   clear d1 g1
   have HE6:=Lib.hid (HE5.out.set1 (a++s))
   have HB6:Hid (Below base w (w5.setCell ⟨X,1,none⟩ (.string (a++s)))):=Lib.hid (HB5.out.setCell (p:=⟨X,1,none⟩) hbX _)
   obtain⟨w6,hw6⟩:∃ w6,w5.setCell ⟨X,1,none⟩ (.string (a++s))=w6:=⟨_,rfl⟩
   rw[hw6]at HE6 HB6 ⊢
   clear hw6
   obtain⟨t,ht⟩:∃ t,a++s=t:=⟨_,rfl⟩
   have HTT:=Lib.hid ht
   have hts2:t.size≤32768:=by rw[← ht,ByteArray.size_append];omega
   rw[ht]at HE6 ⊢
   clear ht
   have d1:=HE6.out.c1
   have g1:=HE6.out.f 1
   have d2:=(HE6.out.below (Go.below_drewN (Below.refl _ _) 1)).c1
   have m0:max ((t.size:Int) - 32768) 0=0:=by omega
   have m1:t.extract 0 t.size=t:=ext_all t
   have m2:IntKind.i64.wrap ((t.size:Int) - 32768)=(t.size:Int) - 32768:=IntWalk.i64_in _ (by omega)
   go_still_tail 15,(by kernel_rfl)
   change wpList _ _ _ _ _ w6.drew
   have HE7:Hid (EncAt w6.drew base X level t r v5 _ closed):=Lib.hid (HE6.out.below (Go.below_drewN (Below.refl _ _) 1))
   have HB7:Hid (Below base w w6.drew):=Lib.hid (Go.below_drewN HB6.out 1)
   clear d1 g1 d2
   generalize w6.drew=w7 at *
   have d3:=HE7.out.c1
   have g3:=HE7.out.f 1
   have HE8:=Lib.hid (HE7.out.set1 t)
   have HB8:Hid (Below base w (w7.setCell ⟨X,1,none⟩ (.string t))):=Lib.hid (HB7.out.setCell (p:=⟨X,1,none⟩) hbX _)
   go_wp2
   refine bodyPost_end (v:= .tuple #[]) (results_none (by kernel_rfl) _ _ _) rfl ⟨rfl,⟨v5,?_⟩,HB8.out⟩
   rw[HS.out,HR.out,HTT.out,HBK.out,HKK.out]
   exact HE8.out
end Go.Proofs.YtgiogemkomgkhaaGreatDoor.Df
