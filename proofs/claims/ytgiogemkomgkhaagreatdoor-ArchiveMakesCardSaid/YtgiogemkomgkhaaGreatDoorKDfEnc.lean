/-
  deflate.Encoder: New, Write, Close.
-/
import Derived.Test.YtgiogemkomgkhaaGreatDoorKDfBlock
import Derived.Test.YtgiogemkomgkhaaGreatDoorKRf
set_option linter.unusedVariables false
set_option linter.unusedSimpArgs false
namespace Go.Proofs.YtgiogemkomgkhaaGreatDoor.Df
open Go.RowKit Go.Shelf Mg Bw Bk Cn Zp Rf Mt
theorem strB_nums {dn:List Nat} (h:∀ x∈dn,x<256):strB (strOfNums (dn.map fun x:Nat=>(x:Int)))=dn.flatMap (bitsN 8):=by
 unfold strB
 rw[strN_nums dn h]
theorem strB_inj {a b:ByteArray} (h:strB a=strB b):a=b:=strN_inj (flat8_inj _ _ (strN_lt a) (strN_lt b) h)
theorem strB_nil:strB ⟨#[]⟩= []:=rfl
theorem drain_wrote {w:World} {base B o:Nat} {v x:Value} {bs:List Bool} (h:WAt w base B o v bs) (hx:∀ k,x.ownBlock=some k→v.ownBlock=some k):Wrote B o v w x (w.setCell ⟨B,o,none⟩ x) :=
 ⟨rfl,rfl,rfl,by simp[World.setCell],fun k hk hB _=>Below.heap_setCell w ⟨B,o,none⟩ x k hB,fun j hj=>World.cell?_setCell_other _ _ _ _ (by intro e;cases e;omega),fun k hk=> .inl (hx k hk)⟩
set_option maxHeartbeats 2000000 in
set_option maxRecDepth 100000 in
theorem drainx_calls (base B o:Nat) (v:Value) (bs:List Bool) (w:World) (h:WAt w base B o v bs) (hl:bs.length≤1000000000) :
  Calls Tryz.prog 46 #[.pointer (some ⟨B,o,none⟩)] w fun e w'=>∃ S v' bs2,e= .returned (.string S)∧bs=strB S++bs2∧bs2.length<8∧WAt w' base B o v' bs2∧Wrote B o v w v' w':=by
 have HW:=Lib.hid h
 obtain⟨dn,acc,n,hr,hn,hb⟩:=h
 have hlen:=wbits_len dn acc n
 rw[hb]at hlen
 have HB:Hid (bs=strB (strOfNums (dn.map fun x:Nat=>(x:Int)))++bitsN n acc):=Lib.hid (by rw[← hb,strB_nums hr.byte];rfl)
 rcases own_nil hr.row with⟨rfl,h0⟩|⟨g,c,rfl⟩
 ·obtain rfl:dn= []:=List.length_eq_zero_iff.1 h0
  have c0:=hr.c0
  have g0:=hr.f0 o
  have hcv:=conv_nil w
  have HR:Hid (WRaw (w.setCell ⟨B,o,none⟩ (.slice none 0 0)) base B o (.slice none 0 0) [] acc n):=Lib.hid
   ⟨World.ownsRow_nil _ _ _ _,World.cell?_setCell_same _ _ _ hr.c0,(World.cell?_setCell_other _ _ _ _ (by intro e;simp at e)).trans hr.c1,(World.cell?_setCell_other _ _ _ _ (by intro e;simp at e)).trans hr.c2,fun k=>by rw[World.frozen?_setCell];exact hr.f0 k,(fun e=>by cases e),(fun x hx=>by cases hx),hr.lt,by simpa[World.setCell] using hr.b⟩
  have HX:Hid (Wrote B o (.slice none 0 0) w (.slice none 0 0) (w.setCell ⟨B,o,none⟩ (.slice none 0 0))):=Lib.hid (drain_wrote HW.out (fun k e=>e))
  clear hr hb hlen h0
  go_enter Tryz.func46,Tryz.ntmps46
  go_wp2
  go_ret
  exact⟨⟨#[]⟩,.slice none 0 0,bitsN n acc,rfl,HB.out,by rw[bitsN_len];exact hn,⟨[],acc,n,HR.out,hn,rfl⟩,HX.out⟩
 ·have HD:=Lib.hid (drain_calls base B o g c acc n dn w hr (by omega))
  refine HD.out.mono ?_
  rintro e w' ⟨rfl,rfl⟩
  have hrow:(w.setCell ⟨B,o,none⟩ (.slice (some ⟨g,0,none⟩) 0 c)).ownsRow base 5 1 (.slice (some ⟨g,0,none⟩) 0 c) 0 []:=by
   have hk:=hr.row.kept (Mg.grown_set w B o (.slice (some ⟨g,0,none⟩) 0 c)) (.inr hr.ne)
   rcases hk.2 with⟨h1,_⟩|⟨g',cap,cur,h1,h2,h3,h4,h5,h6,h7⟩
   ·cases h1
   ·cases h1
    exact⟨rfl,.inr ⟨g,c,cur,rfl,h2,h3,Nat.zero_le _,h5,h6,by simp⟩⟩
  have HR:WRaw (w.setCell ⟨B,o,none⟩ (.slice (some ⟨g,0,none⟩) 0 c)) base B o (.slice (some ⟨g,0,none⟩) 0 c) [] acc n :=
   ⟨hrow,World.cell?_setCell_same _ _ _ hr.c0,(World.cell?_setCell_other _ _ _ _ (by intro e;simp at e)).trans hr.c1,(World.cell?_setCell_other _ _ _ _ (by intro e;simp at e)).trans hr.c2,fun k=>by rw[World.frozen?_setCell];exact hr.f0 k,hr.ne,(fun x hx=>by cases hx),hr.lt,by simpa[World.setCell] using hr.b⟩
  exact⟨_,.slice (some ⟨g,0,none⟩) 0 c,bitsN n acc,rfl,HB.out,by rw[bitsN_len];exact hn,⟨[],acc,n,HR,hn,rfl⟩,drain_wrote HW.out (fun k e=>e)⟩
set_option maxHeartbeats 1000000 in
set_option maxRecDepth 100000 in
theorem encnew_calls (level:Nat) (w:World) (h:level≤9):Calls Tryz.prog 26 #[.int .i64 level] w fun e w'=>e= .returned (.tuple #[.pointer (some ⟨w.heap.size,0,none⟩),.int .i64 0])∧EncAt w' w.heap.size w.heap.size level ⟨#[]⟩ ⟨#[]⟩ (.slice none 0 0) [] false∧Below w.heap.size w w':=by
 have q1:decide ((level:Int)<0)=false:=decide_eq_false (by omega)
 have q2:decide (9<(level:Int))=false:=decide_eq_false (by omega)
 have HB:=Lib.hid ((Below.refl w.heap.size w).alloc (Nat.le_refl _) (.cells #[.int .i64 level,.string ⟨#[]⟩,.string ⟨#[]⟩,.slice none 0 0,.int .u64 0,.int .i64 0,.bool false] 112))
 have hh:(w.alloc (.cells #[.int .i64 level,.string ⟨#[]⟩,.string ⟨#[]⟩,.slice none 0 0,.int .u64 0,.int .i64 0,.bool false] 112)).heap[w.heap.size]?=some (.cells #[.int .i64 level,.string ⟨#[]⟩,.string ⟨#[]⟩,.slice none 0 0,.int .u64 0,.int .i64 0,.bool false] 112 (0,0)):=World.alloc_heap_new _ _
 have HE:Hid (EncAt (w.alloc (.cells #[.int .i64 level,.string ⟨#[]⟩,.string ⟨#[]⟩,.slice none 0 0,.int .u64 0,.int .i64 0,.bool false] 112)) w.heap.size w.heap.size level ⟨#[]⟩ ⟨#[]⟩ (.slice none 0 0) [] false):=Lib.hid (by
  refine⟨(cell_at hh 0 _ rfl).1,(cell_at hh 1 _ rfl).1,(cell_at hh 2 _ rfl).1,(cell_at hh 6 _ rfl).1,⟨[],0,0,⟨World.ownsRow_nil _ _ _ _,(cell_at hh 3 _ rfl).1,(cell_at hh 4 _ rfl).1,(cell_at hh 5 _ rfl).1,fun k=>?_,(fun e=>by cases e),(fun x hx=>by cases hx),by decide,by simp⟩,by decide,rfl⟩,Nat.le_refl _⟩
  unfold World.frozen?
  simp only
  rw[hh]
  simp)
 clear hh
 go_enter Tryz.func26,Tryz.ntmps26
 go_wp2
 go_ret2
 exact⟨rfl,HE.out,HB.out⟩
def WroteAt (base X level:Nat) (a rest:ByteArray) (bs:List Bool) (closed:Bool) (w:World) (e:Ending) (w':World):Prop :=
 ∃ S v' bs2,e= .returned (.tuple #[.string S,.int .i64 0])∧bs=strB S++bs2∧bs2.length<8∧EncAt w' base X level a rest v' bs2 closed∧Below base w w'
set_option maxHeartbeats 2000000 in
set_option maxRecDepth 100000 in
theorem encw_calls (s:ByteArray) (base X level:Nat) (a rest:ByteArray) (v:Value) (bs:List Bool) (w:World) (hE:EncAt w base X level a rest v bs false) (hs:rest.size+s.size≤16384) (hbs:bs.length≤1000000000):Calls Tryz.prog 27 #[.pointer (some ⟨X,0,none⟩),.string s] w fun e w'=>WroteAt base X level a (rest++s) bs false w e w':=by
 have c6:=hE.c6
 have c2:=hE.c2
 have f2:=hE.f 2
 have hbX:=hE.b
 have HE1:=Lib.hid (hE.set2 (rest++s))
 have HB1:Hid (Below base w (w.setCell ⟨X,2,none⟩ (.string (rest++s)))):=Lib.hid ((Below.refl _ _).setCell (p:=⟨X,2,none⟩) hbX _)
 have s1:rest.size≤16384:=by omega
 have s2:s.size≤16384:=by omega
 have hts:(rest++s).size≤16384:=by rw[ByteArray.size_append];exact hs
 obtain⟨t,ht⟩:∃ t,rest++s=t:=⟨_,rfl⟩
 have HT:=Lib.hid ht
 rw[ht]at HE1 HB1 hts
 clear hE
 go_enter Tryz.func27,Tryz.ntmps27
 go_upto_region 6 with fail
 clear ht c2 c6 f2
 obtain⟨w1,hw1⟩:∃ w1,w.setCell ⟨X,2,none⟩ (.string t)=w1:=⟨_,rfl⟩
 rw[hw1]at HE1 HB1 ⊢
 clear hw1
 have q1:decide (16384<(t.size:Int))=false:=decide_eq_false (by omega)
 go_loopw [] (fun wr=>wr=w1) (fun _=>0)
 case atStart=>rfl
 case round =>
  obtain rfl:=hrel
  have c2:=HE1.out.c2
  have hwb:=HE1.out.wr.ge.1
  go_wp2_with fail
  refine(drainx_calls base X 3 v bs _ HE1.out.wr hbs).mono ?_
  rintro e w3 ⟨S,v3,bs2,rfl,h1,h2,h3,h4⟩
  have HX:Hid (WroteAt base X level a (rest++s) bs false w (.returned (.tuple #[.string S,.int .i64 0])) w3):=Lib.hid (by
   rw[HT.out]
   exact⟨S,v3,bs2,rfl,h1,h2,HE1.out.wrote h4 h3,HB1.out.trans (h4.below hbX (fun k e=>(HE1.out.wr.ge.2.1 k e).1) hwb)⟩)
  clear h1 h2 h3 h4 c2
  go_wp2
  go_ret2
  exact HX.out
theorem ext_whole (s:ByteArray):s.extract 0 s.size=s:=ext_all s
theorem ext_none (s:ByteArray):s.extract s.size s.size=⟨#[]⟩:=by
 apply strN_inj
 rw[strN_extract,Nat.sub_self,List.take_zero]
 rfl
def ClosedAt (base X level:Nat) (a rest:ByteArray) (bs:List Bool) (w:World) (e:Ending) (w':World):Prop :=
 ∃ S v',e= .returned (.tuple #[.string S,.int .i64 0])∧strB S=padB (wrB bs (blkP level true a rest))∧EncAt w' base X level (a++rest) ⟨#[]⟩ v' [] true∧Below base w w'
set_option maxHeartbeats 2000000 in
set_option maxRecDepth 100000 in
theorem encc_calls (base X level:Nat) (a rest:ByteArray) (v:Value) (bs:List Bool) (w:World) (hE:EncAt w base X level a rest v bs false) (hG:GlobT w base) (hl:level≤9) (hs:rest.size≤16384) (ha:a.size+rest.size≤32768) (hbs:bs.length≤900000000) :
  Calls Tryz.prog 28 #[.pointer (some ⟨X,0,none⟩)] w fun e w'=>ClosedAt base X level a rest bs w e w':=by
 have c6:=hE.c6
 have f6:=hE.f 6
 have hbX:=hE.b
 have HE1:=Lib.hid (hE.set6 true)
 have HB1:Hid (Below base w (w.setCell ⟨X,6,none⟩ (.bool true))):=Lib.hid ((Below.refl _ _).setCell (p:=⟨X,6,none⟩) hbX _)
 have HG:=Lib.hid hG
 have hwl:(wrB bs (blkP level true a rest)).length≤bs.length+4000000:=by
  have h:=tokP_ok a rest level
  refine wrB_le bs _ ?_ true _ rest (by omega) (by omega)
  unfold kindP
  split
  ·omega
  ·exact choose_le _ _
 clear hE hG
 go_enter Tryz.func28,Tryz.ntmps28
 go_upto_region 6 with fail
 clear c6 f6
 obtain⟨w1,hw1⟩:∃ w1,w.setCell ⟨X,6,none⟩ (.bool true)=w1:=⟨_,rfl⟩
 rw[hw1]at HE1 HB1 ⊢
 clear hw1
 have c2:=HE1.out.c2
 go_wp2_with fail
 refine(block_calls base X level rest.size true a rest v bs true w1 HE1.out (HG.out.below HB1.out) hl (Nat.le_refl _) hs (by omega) ha (by omega)).mono ?_
 rintro e w2 ⟨rfl,⟨v2,he2⟩,hb2⟩
 rw[ext_whole,ext_none]at he2
 have HE2:=Lib.hid he2
 have HB2:=Lib.hid (HB1.out.trans hb2)
 clear he2 hb2 c2
 go_wp2_with fail
 refine(align_calls base X 3 v2 _ w2 HE2.out.wr (by omega)).mono ?_
 rintro e w3 ⟨rfl,v3,hw3,ht3⟩
 have HE3:=Lib.hid (HE2.out.wrote ht3 hw3)
 have HB3:Hid (Below base w w3):=Lib.hid (HB2.out.trans (ht3.below hbX (fun k e=>(HE2.out.wr.ge.2.1 k e).1) HE2.out.wr.ge.1))
 have hpl:=padB_le (wrB bs (blkP level true a rest))
 clear hw3 ht3
 go_wp2_with fail
 refine(drainx_calls base X 3 v3 _ w3 HE3.out.wr (by omega)).mono ?_
 rintro e w4 ⟨S,v4,bs2,rfl,h1,h2,h3,h4⟩
 have HX:Hid (ClosedAt base X level a rest bs w (.returned (.tuple #[.string S,.int .i64 0])) w4):=Lib.hid (by
  have hm:=padB_mod (wrB bs (blkP level true a rest))
  have h1l:=congrArg List.length h1
  rw[List.length_append,strB_len]at h1l
  obtain rfl:bs2= []:=List.length_eq_zero_iff.1 (by omega)
  rw[List.append_nil]at h1
  exact⟨S,v4,rfl,h1.symm,HE3.out.wrote h4 h3,HB3.out.trans (h4.below hbX (fun k e=>(HE3.out.wr.ge.2.1 k e).1) HE3.out.wr.ge.1)⟩)
 clear h1 h2 h3 h4
 go_wp2
 go_ret2
 exact HX.out
def IsStream (level:Nat) (s S:ByteArray):Prop:=strB S=padB (wrB [] (blkP level true ⟨#[]⟩ s))
theorem stream_one {level:Nat} {s S T:ByteArray} (h:IsStream level s S) (k:IsStream level s T):S=T:=strB_inj (h.trans k.symm)
theorem empty_app (s:ByteArray):(⟨#[]⟩:ByteArray)++s=s:=by
 apply strN_inj
 rw[strN_append]
 rfl
theorem no_bits {S:ByteArray} {bs2:List Bool} (h:([]:List Bool)=strB S++bs2):S=⟨#[]⟩∧bs2= []:=by
 obtain⟨h1,h2⟩:=List.append_eq_nil_iff.1 h.symm
 exact⟨strB_inj (h1.trans strB_nil.symm),h2⟩
def AllAt (level:Nat) (s:ByteArray) (w:World) (e:Ending) (w':World):Prop:=∃ S,e= .returned (.tuple #[.string S,.int .i64 0])∧IsStream level s S∧Below w.heap.size w w'
theorem is_size {level:Nat} {s S:ByteArray} (h:IsStream level s S) (hs:s.size≤16384):S.size≤1000000:=by
 have hk:(kindP level s.size (tokP ⟨#[]⟩ s level))≤2:=by
  unfold kindP
  split
  ·omega
  ·exact choose_le _ _
 have h0:=tokP_ok ⟨#[]⟩ s level
 have h1:(wrB [] (blkP level true ⟨#[]⟩ s)).length≤0+4000000:=wrB_le [] _ hk true _ s (by omega) (by omega)
 have h2:=padB_le (wrB [] (blkP level true ⟨#[]⟩ s))
 have h3:=congrArg List.length h
 rw[strB_len]at h3
 omega
set_option maxHeartbeats 2000000 in
set_option maxRecDepth 100000 in
theorem all_calls (level:Nat) (s:ByteArray) (w:World) (hl:level≤9) (hs:s.size≤16384) (hG:OrdT w∧DepT w) :
  Calls Tryz.prog 14 #[.string s,.int .i64 level] w fun e w'=>AllAt level s w e w':=by
 have HN:=Lib.hid (encnew_calls level w hl)
 have HG:Hid (GlobT w w.heap.size):=Lib.hid ⟨hG.1,hG.2,hG.1.lt,hG.2.lt⟩
 clear hG
 go_enter Tryz.func14,Tryz.ntmps14
 go_wp2_with fail
 refine HN.out.mono ?_
 rintro e w1 ⟨rfl,he1,hb1⟩
 have HE1:=Lib.hid he1
 have HB1:=Lib.hid hb1
 obtain⟨X,hX⟩:∃ X,w.heap.size=X:=⟨_,rfl⟩
 have HX:=Lib.hid hX
 rw[hX]at HE1 HB1 HG ⊢
 clear he1 hb1 hX HN
 go_wp2_with fail
 refine(encw_calls s X X level ⟨#[]⟩ ⟨#[]⟩ _ [] w1 HE1.out (by rw[show(⟨#[]⟩:ByteArray).size=0 from rfl];omega) (by simp)).mono ?_
 rintro e w2 ⟨S2,v2,bs2,rfl,h1,h2,he2,hb2⟩
 obtain⟨rfl,rfl⟩:=no_bits h1
 rw[empty_app]at he2
 have HE2:=Lib.hid he2
 have HB2:=Lib.hid (HB1.out.trans hb2)
 clear he2 hb2 h1 h2
 go_wp2_with fail
 refine(encc_calls X X level ⟨#[]⟩ s v2 [] w2 HE2.out (HG.out.below HB2.out) hl hs (by rw[show(⟨#[]⟩:ByteArray).size=0 from rfl];omega) (by simp)).mono ?_
 rintro e w3 ⟨S3,v3,rfl,h1,he3,hb3⟩
 have HS:Hid (IsStream level s S3):=Lib.hid h1
 have HB3:Hid (Below w.heap.size w w3):=Lib.hid (by rw[HX.out];exact HB2.out.trans hb3)
 have hsz:=is_size h1 hs
 have hem:=empty_app S3
 have hsz0:(⟨#[]⟩:ByteArray).size=0:=rfl
 clear h1 he3 hb3
 go_wp2
 go_ret2
 exact⟨S3,rfl,HS.out,HB3.out⟩
end Go.Proofs.YtgiogemkomgkhaaGreatDoor.Df
