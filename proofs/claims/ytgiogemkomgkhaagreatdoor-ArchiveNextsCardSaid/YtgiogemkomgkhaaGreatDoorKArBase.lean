/-
  Archives: files, heads and what a maker has made, as plain data and in memory.
-/
import Derived.Test.YtgiogemkomgkhaaGreatDoorKDfEnc
import Derived.Test.YtgiogemkomgkhaaGreatDoorKNm
import Derived.Test.YtgiogemkomgkhaaGreatDoorKArA
import Derived.Test.YtgiogemkomgkhaaGreatDoorKZpSizesLaw
import Derived.Test.YtgiogemkomgkhaaGreatDoorKCr
set_option linter.unusedVariables false
set_option linter.unusedSimpArgs false
namespace Go.Proofs.YtgiogemkomgkhaaGreatDoor.Ar
open Go.RowKit Go.Shelf Zp YtgiogemkomgkhaaGreatDoor.Nm Df Cr Bk Mt Bw Rf
noncomputable def strmS (level:Nat) (s:ByteArray):ByteArray:=by
 classical exact if h:∃ S,IsStream level s S then h.choose else⟨#[]⟩
theorem strm_eq {level:Nat} {s S:ByteArray} (h:IsStream level s S):S=strmS level s:=by
 have hx:∃ S,IsStream level s S:=⟨S,h⟩
 unfold strmS
 rw[dif_pos hx]
 exact stream_one h hx.choose_spec
theorem bits_num:∀ bs:List Bool,bitsN bs.length (numB bs)=bs
 | []=>rfl
 | b::bs=>by
  rw[List.length_cons,Nat.add_comm,bitsN_app]
  have h1:numB (b::bs)/2 ^ 1=numB bs:=by simp only[numB];split<;>omega
  have h2:bitsN 1 (numB (b::bs))= [b]:=by
   simp only[bitsN,numB,List.range_one,List.map_cons,List.map_nil,Nat.testBit_zero]
   cases b<;>simp<;>omega
  rw[h1,h2,bits_num bs]
  rfl
theorem whole8:∀ (n:Nat) (bs:List Bool),bs.length=8*n→∃ dn:List Nat,(∀ x∈dn,x<256)∧dn.flatMap (bitsN 8)=bs
 | 0,bs,h=>⟨[],(fun x hx=>by cases hx),by rw[List.length_eq_zero_iff.1 (by omega:bs.length=0)];rfl⟩
 | n+1,bs,h=>by
  obtain⟨dn,h1,h2⟩:=whole8 n (bs.drop 8) (by rw[List.length_drop];omega)
  have hl:(bs.take 8).length=8:=by rw[List.length_take];omega
  have hb:=bits_num (bs.take 8)
  have hlt:=numB_lt (bs.take 8)
  rw[hl]at hb hlt
  refine⟨numB (bs.take 8)::dn,fun x hx=>?_,?_⟩
  ·rcases List.mem_cons.1 hx with rfl|hx
   ·exact hlt
   ·exact h1 x hx
  ·rw[List.flatMap_cons,h2,hb,List.take_append_drop]
theorem strm_is (level:Nat) (s:ByteArray):IsStream level s (strmS level s):=by
 have hx:∃ S,IsStream level s S:=by
  obtain⟨dn,h1,h2⟩:=whole8 ((padB (wrB [] (blkP level true ⟨#[]⟩ s))).length/8) (padB (wrB [] (blkP level true ⟨#[]⟩ s))) (by have:=padB_mod (wrB [] (blkP level true ⟨#[]⟩ s));omega)
  exact⟨_,(strB_nums h1).trans h2⟩
 unfold strmS
 rw[dif_pos hx]
 exact hx.choose_spec
theorem strm_size (level:Nat) (s:ByteArray) (hs:s.size≤16384):(strmS level s).size≤1000000:=is_size (strm_is level s) hs
structure Fl.ok (f:Fl):Prop where
 n:checkB f.name=true
 t:tgood f.t=true
 d:f.data.size≤16384
def nosB (s:ByteArray):Bool:=decide (s.size=0)
noncomputable def headF (level:Nat) (f:Fl) (pos:Nat):Hd :=
 ⟨f.name,f.t,if f.data.size=0 then 0 else((strmS level f.data).size:Int),(f.data.size:Int),if f.data.size=0 then 0 else(crcP (byN f.data):Int),(pos:Int),nosB f.data⟩
noncomputable def fileS (level:Nat) (f:Fl) (pos:Nat):ByteArray:=locS (headF level f pos)++(if f.data.size=0 then⟨#[]⟩ else strmS level f.data)++desS (headF level f pos)
structure Mst where
 (k pos:Nat)
 (hs:List Hd)
 (rest:ByteArray)
 (tail:Bool)
structure MkAt (w:World) (lo m T level:Nat) (fs:List Fl) (vf:Value) (st:Mst) (vh:Value):Prop where
 blk:Blk m #[vf,.int .i64 level,.pointer (some ⟨T,0,none⟩),.int .i64 st.k,.int .i64 st.pos,vh,.string st.rest,.bool st.tail] 73 w
 row:w.ownsRow (m+1) 121 12 vh st.hs.length (st.hs.flatMap hdL)
 tab:TabC w T
 tT:lo≤T∧T<m
 fs:∃ A c,vf= .slice A fs.length c∧Cels w A (fs.flatMap flC)∧∀ g o,A=some ⟨g,o,none⟩→lo≤g∧g<m
def Globs (lo:Nat) (w:World):Prop:=∀ W,Below lo w W→OrdT W∧DepT W∧Tabs W
theorem Globs.here {lo:Nat} {w:World} (h:Globs lo w):OrdT w∧DepT w∧Tabs w:=h w (Below.refl _ _)
theorem Globs.below {lo:Nat} {w w':World} (h:Globs lo w) (hb:Below lo w w'):Globs lo w':=fun W hW=>h W (hb.trans hW)
theorem Globs.mono {lo lo':Nat} {w:World} (h:Globs lo w) (hl:lo≤lo'):Globs lo' w:=fun W hW=>h W (hW.mono hl)
theorem Globs.mk {w:World} (h1:OrdT w) (h2:DepT w) (h3:Tabs w):Globs w.heap.size w:=fun W hb=>⟨h1.below hb (Nat.le_refl _),h2.below hb h2.lt,h3.below hb⟩
def Upd1 (B:Nat) (cs:Array Value) (T:Nat) (w wx:World):Prop:=Turn (fun j=>j=B) w wx∧Blk B cs T wx
theorem Upd1.start {B:Nat} {cs:Array Value} {T:Nat} {w:World} (h:Blk B cs T w):Upd1 B cs T w w:=⟨Turn.refl _ _,h⟩
theorem Upd1.next {B:Nat} {cs:Array Value} {T:Nat} {w wx wy:World} (h:Upd1 B cs T w wx) (hb:Below wx.heap.size wx wy):Upd1 B cs T w wy:=⟨h.1.trans (.of_below hb),h.2.below hb⟩
theorem Upd1.set {B:Nat} {cs cs':Array Value} {T:Nat} {w wx:World} (h:Upd1 B cs T w wx) (k:Nat) (v:Value) (e:cs.setIfInBounds k v=cs'):Upd1 B cs' T w (wx.setCell ⟨B,k,none⟩ v) :=
 ⟨h.1.trans ⟨rfl,rfl,rfl,by simp[World.setCell],fun j hj hn=>Below.heap_setCell wx ⟨B,k,none⟩ v j hn⟩,h.2.setTo k v e⟩
theorem Upd1.blk {B B2:Nat} {cs cs2:Array Value} {T T2:Nat} {w wx:World} (h:Upd1 B cs T w wx) (h2:Blk B2 cs2 T2 w) (hne:B2≠B):Blk B2 cs2 T2 wx:=(h.1.block B2 h2.lt hne).trans h2
theorem Upd1.below {B B0:Nat} {cs:Array Value} {T:Nat} {w wx:World} (h:Upd1 B cs T w wx) (hB:B0≤B) (hw:B0≤w.heap.size):Below B0 w wx:=h.1.below (fun k e=>by rw[e];exact hB) hw
def Moved (m:Nat) (vh:Value) (w w':World):Prop:=Turn (fun j=>j=m∨vh.ownBlock=some j) w w'
theorem Moved.refl (m:Nat) (vh:Value) (w:World):Moved m vh w w:=Turn.refl _ _
theorem Moved.next {m:Nat} {vh:Value} {w a b:World} (h:Moved m vh w a) (hb:Below a.heap.size a b):Moved m vh w b:=h.trans (.of_below hb)
theorem Moved.under {m:Nat} {vh:Value} {w a b:World} {B:Nat} (h:Moved m vh w a) (hB:w.heap.size≤B) (hb:Below B a b):Moved m vh w b :=
 ⟨hb.os.trans h.os,hb.tape.trans h.tape,hb.output.trans h.output,Nat.le_trans h.size hb.size,fun j hj hn=>(hb.block j (by omega)).trans (h.block j hj hn)⟩
theorem Moved.upd {m:Nat} {vh:Value} {w a b:World} {B T:Nat} {cs:Array Value} (h:Moved m vh w a) (hB:w.heap.size≤B) (hu:Upd1 B cs T a b):Moved m vh w b :=
 ⟨hu.1.os.trans h.os,hu.1.tape.trans h.tape,hu.1.output.trans h.output,Nat.le_trans h.size hu.1.size,fun j hj hn=>(hu.1.block j (Nat.lt_of_lt_of_le hj h.size) (by omega)).trans (h.block j hj hn)⟩
theorem Moved.set {m:Nat} {vh:Value} {w a:World} (h:Moved m vh w a) (k:Nat) (v:Value):Moved m vh w (a.setCell ⟨m,k,none⟩ v) :=
 ⟨h.os,h.tape,h.output,by simpa[World.setCell] using h.size,fun j hj hn=>(Below.heap_setCell a ⟨m,k,none⟩ v j (fun e=>hn (.inl e))).trans (h.block j hj hn)⟩
theorem Moved.grown {m:Nat} {vh:Value} {w a b:World} (h:Moved m vh w a) (hg:a.grownBy b vh.ownBlock):Moved m vh w b :=
 ⟨hg.os.trans h.os,hg.tape.trans h.tape,hg.output.trans h.output,Nat.le_trans h.size hg.size,fun j hj hn=>(hg.block j (Nat.lt_of_lt_of_le hj h.size) (fun e=>hn (.inr e.symm))).trans (h.block j hj hn)⟩
theorem Moved.below {m lo:Nat} {vh:Value} {w a:World} (h:Moved m vh w a) (hm:lo≤m) (hv:∀ g,vh.ownBlock=some g→lo≤g) (hw:lo≤w.heap.size):Below lo w a :=
 Turn.below h (fun j hj=>by rcases hj with rfl|hj;exact hm;exact hv j hj) hw
theorem own_same {w w':World} {base T sz n:Nat} {v:Value} {xs:List Value} (h:w.ownsRow base T sz v n xs) (hb:∀ j,v.ownBlock=some j→w'.heap[j]?=w.heap[j]?):w'.ownsRow base T sz v n xs:=by
 refine⟨h.1,?_⟩
 rcases h.2 with hn|⟨g,cap,cur,rfl,h1,h2,rest⟩
 ·exact .inl hn
 ·exact .inr ⟨g,cap,cur,rfl,h1,(hb g rfl).trans h2,rest⟩
def chain3 (W0 W1 W2 W3:World):Bool→Bool→Bool→World→Prop
 | false,false,false,wx=>wx=W0
 | true,false,false,wx=>wx=W1
 | true,true,false,wx=>wx=W2
 | true,true,true,wx=>wx=W3
 | _,_,_,_=>False
theorem chain3_all {W0 W1 W2 W3:World} {R:World→Prop} (h0:R W0) (h1:R W1) (h2:R W2) (h3:R W3) {a b c:Bool} {wx:World} (h:chain3 W0 W1 W2 W3 a b c wx):R wx:=by
 cases a<;>cases b<;>cases c
 ·exact(show wx=_ from h)▸h0
 ·exact h.elim
 ·exact h.elim
 ·exact h.elim
 ·exact(show wx=_ from h)▸h1
 ·exact h.elim
 ·exact(show wx=_ from h)▸h2
 ·exact(show wx=_ from h)▸h3
theorem Moved.weak {m:Nat} {vh:Value} {w a:World} (h:Moved m (.slice none 0 0) w a):Moved m vh w a :=
 ⟨h.os,h.tape,h.output,h.size,fun j hj hn=>h.block j hj (fun e=>by rcases e with e|e;exact hn (.inl e);cases e)⟩
theorem ok_name {f:Fl} (h:f.ok):f.name.size≤65535:=by
 have hc:=h.n
 unfold checkB at hc
 simp only[Bool.and_eq_true,decide_eq_true_eq]at hc
 exact hc.1.1.2
theorem crc_lt (s:ByteArray):crcP (byN s)<4294967296:=by
 have:=csum_lt (byN s) 4294967295 (by decide) (byN_lt s)
 unfold crcP
 omega
theorem head_fine (level:Nat) (f:Fl) (pos:Nat) (h:f.ok) (hp:pos≤2000000000):FineH (headF level f pos)∧(locS (headF level f pos)).size≤70000∧(desS (headF level f pos)).size≤24:=by
 have hn:=ok_name h
 have hd:=h.d
 have hst:=strm_size level f.data hd
 have hcr:=crc_lt f.data
 have h1:0≤(headF level f pos).packed∧(headF level f pos).packed≤1000000:=by
  unfold headF
  simp only
  split<;>omega
 have h2:(headF level f pos).size=(f.data.size:Int):=rfl
 have h3:0≤(headF level f pos).sum∧(headF level f pos).sum<4294967296:=by
  unfold headF
  simp only
  split<;>omega
 have h4:(headF level f pos).pos=(pos:Int):=rfl
 have hg:goodH (headF level f pos)=true:=by
  unfold goodH
  simp only[Bool.and_eq_true,Bool.or_eq_true,decide_eq_true_eq,Bool.not_eq_true']
  refine⟨⟨⟨⟨⟨h.n,h.t⟩,by omega⟩,by omega⟩,by omega⟩,?_⟩
  by_cases h0:f.data.size=0
  ·right
   refine⟨?_,by omega⟩
   unfold headF
   simp only
   rw[if_pos h0]
  ·left
   exact decide_eq_false h0
 have hls:=locS_size hg
 have hds:=desS_size hg
 have hcs:=cenS_size hg
 have hnm:(headF level f pos).name=f.name:=rfl
 rw[hnm]at hls hcs
 have hl2:(locS (headF level f pos)).size≤70000:=by rw[hls];split<;>omega
 have hd2:(desS (headF level f pos)).size≤24:=by rw[hds];split;omega;split<;>omega
 have hc2:(cenS (headF level f pos)).size≤1000000:=by
  rw[hcs]
  split
  ·split<;>split<;>omega
  ·omega
 refine⟨⟨⟨by rw[hnm];omega,by omega,by omega,h3,by omega⟩,hg,?_,hc2,?_⟩,hl2,hd2⟩
 ·unfold nextAt
  omega
 ·omega
theorem file_size (level:Nat) (f:Fl) (pos:Nat) (h:f.ok) (hp:pos≤2000000000):(fileS level f pos).size≤1100000:=by
 obtain⟨_,h1,h2⟩:=head_fine level f pos h hp
 have hst:=strm_size level f.data h.d
 unfold fileS
 rw[ByteArray.size_append,ByteArray.size_append]
 split
 ·have:(⟨#[]⟩:ByteArray).size=0:=rfl
  omega
 ·omega
end Go.Proofs.YtgiogemkomgkhaaGreatDoor.Ar
