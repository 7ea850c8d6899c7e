/-
  Archives: files, heads and what a maker has made, as plain data and in memory.
-/
import Derived.Test.YtgiogemkomgkhaaGreatDoorKZpC
import Derived.Test.YtgiogemkomgkhaaGreatDoorKDfEnc
import Derived.Test.YtgiogemkomgkhaaGreatDoorKNm
import Derived.Test.YtgiogemkomgkhaaGreatDoorKCr
set_option linter.unusedVariables false
set_option linter.unusedSimpArgs false
namespace Go.Proofs.YtgiogemkomgkhaaGreatDoor.Ar
open Go.RowKit Go.Shelf Zp YtgiogemkomgkhaaGreatDoor.Nm
theorem _root_.Go.Proofs.YtgiogemkomgkhaaGreatDoor.Zp.Blk.other {B b:Nat} {cs:Array Value} {T:Nat} {w:World} (h:Blk B cs T w) (hne:B≠b) (k:Nat) (v:Value):Blk B cs T (w.setCell ⟨b,k,none⟩ v):=by
 unfold Blk
 rw[Below.heap_setCell _ _ _ _ hne]
 exact h
def Cels (w:World) (A:Option Addr) (cs:List Value):Prop:=∀ k (h:k<cs.length),∃ g o,A=some ⟨g,o,none⟩∧w.cell? ⟨g,o+k,none⟩=some cs[k]
theorem Cels.below {w w':World} {A:Option Addr} {cs:List Value} (h:Cels w A cs) (hb:Below w.heap.size w w'):Cels w' A cs:=fun k hk=>by
 obtain⟨g,o,e,h1⟩:=h k hk
 exact⟨g,o,e,(hb.cell (World.block_lt_of_cell? w _ h1)).trans h1⟩
theorem Cels.at {w:World} {A:Option Addr} {cs:List Value} (h:Cels w A cs) {g o:Nat} (e:A=some ⟨g,o,none⟩) (k:Nat) (v:Value) (hv:cs[k]?=some v):w.cell? ⟨g,o+k,none⟩=some v:=by
 obtain⟨hk,hv2⟩:=List.getElem?_eq_some_iff.1 hv
 obtain⟨g2,o2,e2,h1⟩:=h k hk
 rw[e]at e2
 cases e2
 rw[h1,hv2]
theorem Cels.nil (w:World) (A:Option Addr):Cels w A []:=fun k h=>by simp at h
theorem cels_own {w:World} {base T sz n c:Nat} {A:Option Addr} {cs:List Value} (h:w.ownsRow base T sz (.slice A n c) n cs):Cels w A cs:=fun k hk=>by
 have hl:=h.1
 rcases h.2 with⟨h0,rfl⟩|⟨g,cap,cur,h0,_,hg,hnc,_,hcs,ht⟩
 ·rw[Nat.zero_mul]at hl
  omega
 ·cases h0
  refine⟨g,0,rfl,?_⟩
  have h1:cs[k]?=some cs[k]:=List.getElem?_eq_getElem hk
  have h2:cs[k]?=cur.toList[k]?:=by rw[← ht,List.getElem?_take];simp;omega
  simp only[World.cell?,hg,Nat.zero_add]
  rw[← h1,h2,Array.getElem?_toList]
  rfl
section
variable {α:Type} (f:α→List Value) (n:Nat)
theorem flat_len (hf:∀ x,(f x).length=n):∀ l:List α,(l.flatMap f).length=l.length*n
 | []=>by simp
 | x::l=>by rw[List.flatMap_cons,List.length_append,flat_len hf l,hf,List.length_cons,Nat.succ_mul];omega
theorem flat_get (hf:∀ x,(f x).length=n):∀ (l:List α) (j:Nat) (x:α) (hj:l[j]?=some x) (k:Nat) (hk:k<n),(l.flatMap f)[j*n+k]?=(f x)[k]?
 | [],j,x,hj,_,_=>by simp at hj
 | y::l,0,x,hj,k,hk=>by
  simp only[List.getElem?_cons_zero,Option.some.injEq]at hj
  subst hj
  rw[List.flatMap_cons,Nat.zero_mul,Nat.zero_add,List.getElem?_append_left (by rw[hf];exact hk)]
 | y::l,j+1,x,hj,k,hk=>by
  rw[List.flatMap_cons,List.getElem?_append_right (by rw[hf,Nat.succ_mul];omega),hf]
  rw[show(j+1)*n+k - n=j*n+k by rw[Nat.succ_mul];omega]
  exact flat_get hf l j x (by simpa using hj) k hk
end
theorem Cels.of {α:Type} {f:α→List Value} {n:Nat} (hf:∀ x,(f x).length=n) {w:World} {A:Option Addr} {l:List α} (h:Cels w A (l.flatMap f)) (hn:0<n) (j:Nat) (x:α) (hj:l[j]?=some x) :
  ∃ g o,A=some ⟨g,o,none⟩∧∀ k v,(f x)[k]?=some v→w.cell? ⟨g,o+j*n+k,none⟩=some v:=by
 have hg:=flat_get f n hf l j x hj
 have h0:=hg 0 hn
 rw[List.getElem?_eq_getElem (l:=f x) (by rw[hf];exact hn)]at h0
 obtain⟨h1, -⟩:=List.getElem?_eq_some_iff.1 h0
 obtain⟨g,o,e, -⟩:=h _ h1
 refine⟨g,o,e,fun k v hv=>?_⟩
 have hk:k<n:=by
  obtain⟨h2, -⟩:=List.getElem?_eq_some_iff.1 hv
  rw[hf]at h2
  exact h2
 rw[Nat.add_assoc]
 exact h.at e _ v ((hg k hk).trans hv)
structure Fl where
 (name:ByteArray)
 (t:Tm)
 (data:ByteArray)
def flC (f:Fl):List Value:= [.string f.name,.int .i64 f.t.y,.int .i64 f.t.mo,.int .i64 f.t.d,.int .i64 f.t.h,.int .i64 f.t.mi,.int .i64 f.t.s,.string f.data]
theorem flC_len (f:Fl):(flC f).length=8:=rfl
def hdL (h:Hd):List Value:= [.string h.name,.int .i64 h.t.y,.int .i64 h.t.mo,.int .i64 h.t.d,.int .i64 h.t.h,.int .i64 h.t.mi,.int .i64 h.t.s,.int .u64 h.packed,.int .u64 h.size,.int .u32 h.sum,.int .u64 h.pos,.bool h.kept]
theorem hdL_len (h:Hd):(hdL h).length=12:=rfl
end Go.Proofs.YtgiogemkomgkhaaGreatDoor.Ar
namespace Go.Proofs.YtgiogemkomgkhaaGreatDoor.Ar
open Go.RowKit Go.Shelf Zp YtgiogemkomgkhaaGreatDoor.Nm
def catL (hs:List Hd):List UInt8:=hs.flatMap fun h=>(cenS h).data.toList
def nextAt (h:Hd):Int:=h.pos+(locS h).size+h.packed+(desS h).size
def tailAt:List Hd→Int→Int
 | [],a=>a
 | h::l,_=>tailAt l (nextAt h)
theorem tailAt_snoc (l:List Hd) (h:Hd):∀ a,tailAt (l ++ [h]) a=nextAt h:=by
 induction l with
 | nil=>intro a;rfl
 | cons x l ih=>intro a;exact ih _
def tailS (hs:List Hd):ByteArray:=⟨(catL hs).toArray⟩++endS hs.length (catL hs).length (tailAt hs 0)
structure FineH (h:Hd):Prop where
 ok:h.ok
 g:goodH h=true
 m:0≤nextAt h∧nextAt h<4611686018427387904
 c:(cenS h).size≤1000000
 p:0≤h.pos+(locS h).size∧h.pos+(locS h).size<4611686018427387904∧h.pos+(locS h).size+h.packed<4611686018427387904
theorem catL_snoc (l:List Hd) (h:Hd):catL (l ++ [h])=catL l++(cenS h).data.toList:=by simp[catL]
theorem catL_len (l:List Hd) (h:∀ x∈l,(cenS x).size≤1000000):(catL l).length≤1000000*l.length:=by
 induction l with
 | nil=>simp[catL]
 | cons x l ih =>
  have h1:=h x List.mem_cons_self
  have h2:=ih (fun y hy=>h y (List.mem_cons_of_mem _ hy))
  have e:(catL (x::l)).length=(cenS x).size+(catL l).length:=by
   unfold catL
   rw[List.flatMap_cons,List.length_append]
   rfl
  rw[e,List.length_cons]
  omega
theorem wstr_calls (B b:Nat) (bs:List Value) (s:ByteArray) (w:World) (h:Lib.IsBuilderF 103 5 B b bs w) (hlen:bs.length+s.size≤140737488355328) (hBw:B≤w.heap.size) :
  Calls Tryz.prog 43 #[.pointer (some ⟨b,0,none⟩),.string s] w fun e w'=>e= .returned (.tuple #[.int .i64 s.size,.nilIface])∧(Lib.BuilderAtF 103 5 B b (.pointer (some ⟨b,0,none⟩)) (bs++Lib.strCells s) w'∧Below B w w') :=
 Any.Builder_WriteString_f { Tryz.lays156 with } Tryz.Builder_Extra_156 B b bs s w h hlen hBw
theorem bf_under {T e:TypeId} {B b:Nat} {bs:List Value} {w w':World} (h:Lib.IsBuilderF T e B b bs w) (hb:Below w.heap.size w w'):Lib.IsBuilderF T e B b bs w':=by
 have hx:∀ p,Lib.BuilderAtF T e B b p bs w→Lib.BuilderAtF T e B b p bs w':=by
  rintro p ⟨h1,v,h2,h3,h4⟩
  refine⟨h1,v,(hb.block _ (Array.getElem?_eq_some_iff.1 h2).1).trans h2,?_,h4⟩
  refine⟨h3.1,?_⟩
  rcases h3.2 with hn|⟨g,cap,cur,fr,h5,h6,h7,rest⟩
  ·exact .inl hn
  ·exact .inr ⟨g,cap,cur,fr,h5,h6,(hb.block _ (Array.getElem?_eq_some_iff.1 h7).1).trans h7,rest⟩
 rcases h with h|h
 ·exact .inl (hx _ h)
 ·exact .inr (hx _ h)
theorem endS_le (c z a:Int):(endS c z a).size≤200:=by
 unfold endS
 by_cases h1:c<4611686018427387904∧z<4611686018427387904∧a<4611686018427387904
 ·rw[if_pos h1]
  by_cases h2:65534<c∨4294967294<z∨4294967294<a
  ·rw[if_pos h2]
   simp only[ByteArray.size_append,puI_2,puI_4,puI_8,verS_size,narS_size]
   decide
  ·rw[if_neg h2]
   simp only[ByteArray.size_append,puI_2,puI_4,puI_8,verS_size,narS_size]
   decide
 ·rw[if_neg h1]
  decide
theorem bf_fresh (w:World):Lib.IsBuilderF 103 5 w.heap.size w.heap.size [] (w.alloc (.cells #[.pointer none,.slice none 0 0] 103)):=by
 rcases Lib.fresh_isBuilder 103 5 w with h|h
 ·exact .inl (Lib.BuilderAtF.of h)
 ·exact .inr (Lib.BuilderAtF.of h)
set_option maxHeartbeats 4000000 in
set_option maxRecDepth 100000 in
theorem tail_calls (A:Option Addr) (c:Nat) (hs:List Hd) (w:World) (hA:Cels w A (hs.flatMap hdL)) (hn:hs.length≤1048576) (hf:∀ h∈hs,FineH h) (hT:Tabs w) :
  Calls Tryz.prog 38 #[.slice A hs.length c] w fun e w'=>e= .returned (.string (tailS hs))∧Below w.heap.size w w':=by
 have HA:=Lib.hid hA
 have HF:=Lib.hid hf
 have HT:=Lib.hid hT
 have K0:=Lib.hid (bf_fresh w)
 have B0:=Lib.hid ((Below.refl w.heap.size w).alloc (Nat.le_refl _) (.cells #[.pointer none,.slice none 0 0] 103))
 obtain⟨n,hn0⟩:∃ n,hs.length=n:=⟨_,rfl⟩
 have HN:=Lib.hid hn0
 rw[hn0]at hn
 rw[hn0]
 clear hA hf hT hn0
 go_enter Tryz.func38,Tryz.ntmps38
 go_upto_region 4 with fail
 obtain⟨B,hB⟩:∃ B,w.heap.size=B:=⟨_,rfl⟩
 have HBB:=Lib.hid hB
 obtain⟨w1,hw1⟩:∃ w1,w.alloc (.cells #[.pointer none,.slice none 0 0] 103)=w1:=⟨_,rfl⟩
 rw[hw1,hB]at K0 B0
 rw[hw1,hB]
 clear hw1 hB
 go_loopw [4,9] (fun va vi wr=>∃ k:Nat,k≤n∧vi= .int .i64 k∧va= .int .u64 (tailAt (hs.take k) 0)∧Lib.IsBuilderF 103 5 B B (Lib.byteCells (catL (hs.take k))) wr∧Below B w wr) (fun _ vi _=>n - (intOf vi).toNat)
 case atStart=>exact⟨0,Nat.zero_le _,rfl,rfl,K0.out,B0.out⟩
 case round =>
  obtain⟨k,hk,rfl,rfl,hbf,hbl⟩:=hrel
  have HBF:=Lib.hid hbf
  have HBL:=Lib.hid hbl
  clear hbf hbl K0 B0
  by_cases hlt:k<n
  ·have q1:decide ((k:Int)<(n:Int))=true:=decide_eq_true (by omega)
   have q1':decide (k<n)=true:=decide_eq_true hlt
   have hkl:k<hs.length:=by rw[HN.out];exact hlt
   obtain⟨g,o,rfl,hc⟩:=(HA.out.below (by rw[HBB.out];exact HBL.out)).of hdL_len (by decide) k hs[k] (List.getElem?_eq_getElem hkl)
   have hfk:=HF.out hs[k] (List.getElem_mem hkl)
   have HTK:Hid (hs.take (k+1)=hs.take k ++ [hs[k]]):=Lib.hid (List.take_succ_eq_append_getElem hkl)
   obtain⟨h,hh⟩:∃ h,hs[k]=h:=⟨_,rfl⟩
   rw[hh]at hc hfk HTK
   have HFK:=Lib.hid hfk
   obtain⟨⟨hn0,hp0,hs0,hu0,ha0⟩,hg0,hm0,hcz,hpl⟩:=hfk
   have hlc:=local_calls h
   have hde:=descr_calls h
   have hce:=central_calls h
   have hgo:=hgood_calls h
   rw[hg0]at hgo
   obtain⟨name,⟨y,mo,d,hh',mi,s⟩,packed,size,sum,pos,kept⟩:=h
   have c0:=hc 0 _ rfl
   have c1:=hc 1 _ rfl
   have c2:=hc 2 _ rfl
   have c3:=hc 3 _ rfl
   have c4:=hc 4 _ rfl
   have c5:=hc 5 _ rfl
   have c6:=hc 6 _ rfl
   have c7:=hc 7 _ rfl
   have c8:=hc 8 _ rfl
   have c9:=hc 9 _ rfl
   have c10:=hc 10 _ rfl
   have c11:=hc 11 _ rfl
   simp only[Nat.add_zero]at c0 c1 c2 c3 c4 c5 c6 c7 c8 c9 c10 c11
   have i0:(0:Int)≤(k:Int):=by omega
   have i1:(k:Int)<(n:Int):=by omega
   clear hc hh
   simp only[Hd.val]at hlc hde hce hgo
   obtain⟨LS,hLS⟩:∃ LS,locS ⟨name,⟨y,mo,d,hh',mi,s⟩,packed,size,sum,pos,kept⟩=LS:=⟨_,rfl⟩
   obtain⟨DS,hDS⟩:∃ DS,desS ⟨name,⟨y,mo,d,hh',mi,s⟩,packed,size,sum,pos,kept⟩=DS:=⟨_,rfl⟩
   obtain⟨CS,hCS⟩:∃ CS,cenS ⟨name,⟨y,mo,d,hh',mi,s⟩,packed,size,sum,pos,kept⟩=CS:=⟨_,rfl⟩
   have hTk:=HT.out.below (by rw[HBB.out];exact HBL.out)
   have HNX:Hid (tailAt (hs.take (k+1)) 0=pos+LS.size+packed+DS.size):=Lib.hid (by rw[HTK.out,tailAt_snoc,← hLS,← hDS];rfl)
   have HLN:Hid ((Lib.byteCells (catL (hs.take k))).length≤1000000*k):=Lib.hid (by rw[Lib.byteCells_length];exact Nat.le_trans (catL_len _ (fun x hx=>(HF.out x (List.mem_of_mem_take hx)).c)) (Nat.mul_le_mul_left _ (by rw[List.length_take];omega)))
   have HCX:Hid (Lib.byteCells (catL (hs.take k))++Lib.strCells CS=Lib.byteCells (catL (hs.take (k+1)))):=Lib.hid (by rw[HTK.out,catL_snoc,hCS,Lib.strCells_eq,← Lib.byteCells_append])
   unfold nextAt at hm0
   dsimp only at hm0 hpl hn0 hp0 hs0 hu0 ha0
   rw[hLS,hDS]at hm0
   rw[hLS]at hpl hlc
   rw[hDS]at hde
   rw[hCS]at hce hcz
   have HL:Hid (∀ W,Tabs W→Calls Tryz.prog 59 #[.agg #[.string name,.int .i64 y,.int .i64 mo,.int .i64 d,.int .i64 hh',.int .i64 mi,.int .i64 s,.int .u64 packed,.int .u64 size,.int .u32 sum,.int .u64 pos,.bool kept]] W fun e w'=>e= .returned (.string LS)∧Below W.heap.size W w'):=Lib.hid (fun W hT=>hlc W HFK.out.ok hT)
   have HD:Hid (∀ W,Tabs W→Calls Tryz.prog 60 #[.agg #[.string name,.int .i64 y,.int .i64 mo,.int .i64 d,.int .i64 hh',.int .i64 mi,.int .i64 s,.int .u64 packed,.int .u64 size,.int .u32 sum,.int .u64 pos,.bool kept]] W fun e w'=>e= .returned (.string DS)∧Below W.heap.size W w'):=Lib.hid (fun W hT=>hde W HFK.out.ok hT)
   have HC:Hid (∀ W,Tabs W→Calls Tryz.prog 62 #[.agg #[.string name,.int .i64 y,.int .i64 mo,.int .i64 d,.int .i64 hh',.int .i64 mi,.int .i64 s,.int .u64 packed,.int .u64 size,.int .u32 sum,.int .u64 pos,.bool kept]] W fun e w'=>e= .returned (.string CS)∧Below W.heap.size W w'):=Lib.hid (fun W hT=>hce W HFK.out.ok hT)
   have HG:Hid (∀ W,Tabs W→Calls Tryz.prog 61 #[.agg #[.string name,.int .i64 y,.int .i64 mo,.int .i64 d,.int .i64 hh',.int .i64 mi,.int .i64 s,.int .u64 packed,.int .u64 size,.int .u32 sum,.int .u64 pos,.bool kept]] W fun e w'=>e= .returned (.bool true)∧Below W.heap.size W w'):=Lib.hid (fun W hT=>hgo W hn0 hT)
   have hwl:IntKind.u64.wrap (LS.size:Int)=(LS.size:Int):=by rw[IntKind.wrap_u64];omega
   have hwd:IntKind.u64.wrap (DS.size:Int)=(DS.size:Int):=by rw[IntKind.wrap_u64];omega
   clear hlc hde hce hgo hLS hDS hCS
   go_upto_region 6 with fail
   have KB:=Blk.new wr #[.string name,.int .i64 y,.int .i64 mo,.int .i64 d,.int .i64 hh',.int .i64 mi,.int .i64 s,.int .u64 packed,.int .u64 size,.int .u32 sum,.int .u64 pos,.bool kept] 121
   have BA:=(Below.refl wr.heap.size wr).alloc (Nat.le_refl _) (.cells #[.string name,.int .i64 y,.int .i64 mo,.int .i64 d,.int .i64 hh',.int .i64 mi,.int .i64 s,.int .u64 packed,.int .u64 size,.int .u32 sum,.int .u64 pos,.bool kept] 121)
   have HBF2:=bf_under HBF.out BA
   have HBL2:=HBL.out.trans (BA.mono (by have:=HBL.out.size;have:=HBB.out;omega))
   have hT2:=hTk.below (BA.mono (Nat.le_refl _))
   have hBz:=HBL.out.size
   obtain⟨K,hK⟩:∃ K,wr.heap.size=K:=⟨_,rfl⟩
   obtain⟨W,hW⟩:∃ W,wr.alloc (.cells #[.string name,.int .i64 y,.int .i64 mo,.int .i64 d,.int .i64 hh',.int .i64 mi,.int .i64 s,.int .u64 packed,.int .u64 size,.int .u32 sum,.int .u64 pos,.bool kept] 121)=W:=⟨_,rfl⟩
   rw[hK]at KB hBz
   rw[hW]at KB HBF2 HBL2 hT2
   rw[hW,hK]
   obtain⟨U,f,HAB⟩:=above W.heap.size W
   have d0:=HAB.cell KB KB.lt 0 (.string name) rfl
   have d1:=HAB.cell KB KB.lt 1 (.int .i64 y) rfl
   have d2:=HAB.cell KB KB.lt 2 (.int .i64 mo) rfl
   have d3:=HAB.cell KB KB.lt 3 (.int .i64 d) rfl
   have d4:=HAB.cell KB KB.lt 4 (.int .i64 hh') rfl
   have d5:=HAB.cell KB KB.lt 5 (.int .i64 mi) rfl
   have d6:=HAB.cell KB KB.lt 6 (.int .i64 s) rfl
   have d7:=HAB.cell KB KB.lt 7 (.int .u64 packed) rfl
   have d8:=HAB.cell KB KB.lt 8 (.int .u64 size) rfl
   have d9:=HAB.cell KB KB.lt 9 (.int .u32 sum) rfl
   have d10:=HAB.cell KB KB.lt 10 (.int .u64 pos) rfl
   have d11:=HAB.cell KB KB.lt 11 (.bool kept) rfl
   have HU:=Lib.hid HAB
   have HTU:Hid (∀ u,Tabs (f u)):=Lib.hid (fun u=>hT2.below (HAB.below u))
   have HFU:Hid (∀ u,Lib.IsBuilderF 103 5 B B (Lib.byteCells (catL (hs.take k))) (f u)):=Lib.hid (fun u=>bf_under HBF2 (HAB.below u))
   obtain⟨u0,hu0⟩:=HAB.start
   have hne:Nonempty U:=⟨u0⟩
   have HE:Hid (∀ u,Below B w (f u)):=Lib.hid (fun u=>HBL2.trans ((HAB.below u).mono (by have:=HBL2.size;have:=HBB.out;omega)))
   clear HAB KB hT2 HBF2 HBL2 BA hK hW hTk c0 c1 c2 c3 c4 c5 c6 c7 c8 c9 c10 c11 hBz HBF HBL
   rw[hu0]
   clear hu0
   go_wp2_with (go_at_call 61;refine(HG.out _ (HTU.out _)).mono ?_;rintro e w1 ⟨rfl,hb⟩;obtain⟨u1,rfl⟩:=HU.out.next (Nat.le_refl _) hb;clear hb)
   refine wp_region_class (C:=fun w'=>∃ u,w'=f u) (by kernel_rfl) (by kernel_rfl) (HU.out.drew _) ?_
   repeat (go_big_quiet_step (first|(go_at_call 59;refine(HL.out _ (HTU.out _)).mono ?_;rintro e w1 ⟨rfl,hb⟩;exact⟨rfl,HU.out.next (Nat.le_refl _) hb⟩)|(go_at_call 60;refine(HD.out _ (HTU.out _)).mono ?_;rintro e w1 ⟨rfl,hb⟩;exact⟨rfl,HU.out.next (Nat.le_refl _) hb⟩)))
   refine wpQuiet_nil ?_
   rintro wx ⟨u2,rfl⟩
   go_wp2_with (go_at_call 62;refine(HC.out _ (HTU.out _)).mono ?_;rintro e w1 ⟨rfl,hb⟩;obtain⟨u1,rfl⟩:=HU.out.next (Nat.le_refl _) hb;clear hb)
   refine(wstr_calls B B _ CS _ (HFU.out _) (by have:=HLN.out;omega) (by have:=(HE.out u1).size;have:=HBB.out;omega)).mono ?_
   rintro e w3 ⟨rfl,hb3,hbl3⟩
   have HN3:Hid (Lib.IsBuilderF 103 5 B B (Lib.byteCells (catL (hs.take (k+1)))) w3):=Lib.hid (by rw[← HCX.out];exact .inr hb3)
   have HB3:=Lib.hid ((HE.out u1).trans hbl3)
   clear hb3 hbl3
   go_wp2
   go_roundw
   case rel=>exact⟨k+1,by omega,by go_num,by rw[HNX.out],HN3.out,HB3.out⟩
   case measure=>simp[intOf];omega
  ·obtain rfl:k=n:=by omega
   have q1:decide ((k:Int)<(k:Int))=false:=decide_eq_false (by omega)
   have q1':decide (k<k)=false:=decide_eq_false (by omega)
   have hall:hs.take k=hs:=List.take_of_length_le (by rw[HN.out];exact Nat.le_refl _)
   rw[hall]at HBF
   rw[hall]
   clear hall
   have HLN:Hid ((catL hs).length≤1000000*k):=Lib.hid (by rw[← HN.out];exact catL_len _ (fun x hx=>(HF.out x hx).c))
   have hta:0≤tailAt hs 0∧tailAt hs 0<4611686018427387904:=by
    rcases List.eq_nil_or_concat hs with e|⟨l,x,e⟩
    ·rw[e];exact⟨by decide,by decide⟩
    ·have:=(HF.out x (by rw[e];simp)).m
     rw[e,List.concat_eq_append,tailAt_snoc]
     exact this
   have HR:Hid (tailS hs=⟨(catL hs).toArray⟩++endS hs.length (catL hs).length (tailAt hs 0)):=Lib.hid rfl
   rw[HN.out]at HR
   generalize tailAt hs 0=ta at *
   have hcl:=HLN.out
   generalize hcat:catL hs=CL at *
   clear hcat
   obtain⟨z,hz⟩:∃ z,CL.length=z:=⟨_,rfl⟩
   have hbz:(Lib.byteCells CL).length=z:=by rw[Lib.byteCells_length,hz]
   rw[hz]at hcl HR
   have hwk:IntKind.u64.wrap (k:Int)=(k:Int):=by rw[IntKind.wrap_u64];omega
   have hwz:IntKind.u64.wrap (z:Int)=(z:Int):=by rw[IntKind.wrap_u64];omega
   obtain⟨SS,hSS⟩:∃ SS:ByteArray,⟨CL.toArray⟩=SS:=⟨_,rfl⟩
   have hss:SS.size=z:=by rw[← hSS,← hz];simp[ByteArray.size]
   have HSTR:=Lib.hid (Tryz.Builder_String_any_f B B CL wr HBF.out)
   rw[hSS]at HR HSTR
   obtain⟨ES,hES⟩:∃ ES,endS (k:Int) (z:Int) ta=ES:=⟨_,rfl⟩
   have hes:ES.size≤200:=by rw[← hES];exact endS_le _ _ _
   have HEN:=Lib.hid (fun W=>end_calls (k:Int) (z:Int) ta W (by omega) (by omega) (by omega) (by omega) (by omega) (by omega))
   rw[hES]at HR HEN
   clear hz HLN hSS hES
   have hBz:B≤wr.heap.size:=by have:=HBL.out.size;have:=HBB.out;omega
   go_wp2_with fail
   refine(HSTR.out hBz).mono ?_
   rintro e w2 ⟨rfl,hbf2,hb2⟩
   have HBF2:=Lib.hid hbf2
   have HB2:=Lib.hid (HBL.out.trans hb2)
   clear hbf2 hb2 hBz
   go_wp2_with fail
   refine(Tryz.Builder_Len_f B B _ w2 HBF2.out).mono ?_
   rintro e w3 ⟨rfl,rfl⟩
   rw[hbz]
   clear hbz
   go_wp2_with fail
   refine(HEN.out _).mono ?_
   rintro e w4 ⟨rfl,hb4⟩
   have HB4:=Lib.hid (HB2.out.trans (hb4.mono (by have:=HB2.out.size;have:=HBB.out;omega)))
   clear hb4
   go_wp2
   go_ret
   exact⟨by rw[HR.out]<;>rfl,by rw[HBB.out];exact HB4.out⟩
end Go.Proofs.YtgiogemkomgkhaaGreatDoor.Ar
namespace Go.Proofs.YtgiogemkomgkhaaGreatDoor.Ar
open Go.RowKit Go.Shelf Zp YtgiogemkomgkhaaGreatDoor.Nm Df Cr Bk Mt Bw Rf
noncomputable def strmS (level:Nat) (s:ByteArray):ByteArray:=by
 classical exact if h:∃ S,IsStream level s S then h.choose else⟨#[]⟩
theorem strm_eq {level:Nat} {s S:ByteArray} (h:IsStream level s S):S=strmS level s:=by
 have hx:∃ S,IsStream level s S:=⟨S,h⟩
 unfold strmS
 rw[dif_pos hx]
 exact stream_one h hx.choose_spec
theorem bits_num:∀ bs:List Bool,bitsN bs.length (numB bs)=bs
 | []=>rfl
 | b::bs=>by
  rw[List.length_cons,Nat.add_comm,bitsN_app]
  have h1:numB (b::bs)/2 ^ 1=numB bs:=by simp only[numB];split<;>omega
  have h2:bitsN 1 (numB (b::bs))= [b]:=by
   simp only[bitsN,numB,List.range_one,List.map_cons,List.map_nil,Nat.testBit_zero]
   cases b<;>simp<;>omega
  rw[h1,h2,bits_num bs]
  rfl
theorem whole8:∀ (n:Nat) (bs:List Bool),bs.length=8*n→∃ dn:List Nat,(∀ x∈dn,x<256)∧dn.flatMap (bitsN 8)=bs
 | 0,bs,h=>⟨[],(fun x hx=>by cases hx),by rw[List.length_eq_zero_iff.1 (by omega:bs.length=0)];rfl⟩
 | n+1,bs,h=>by
  obtain⟨dn,h1,h2⟩:=whole8 n (bs.drop 8) (by rw[List.length_drop];omega)
  have hl:(bs.take 8).length=8:=by rw[List.length_take];omega
  have hb:=bits_num (bs.take 8)
  have hlt:=numB_lt (bs.take 8)
  rw[hl]at hb hlt
  refine⟨numB (bs.take 8)::dn,fun x hx=>?_,?_⟩
  ·rcases List.mem_cons.1 hx with rfl|hx
   ·exact hlt
   ·exact h1 x hx
  ·rw[List.flatMap_cons,h2,hb,List.take_append_drop]
theorem strm_is (level:Nat) (s:ByteArray):IsStream level s (strmS level s):=by
 have hx:∃ S,IsStream level s S:=by
  obtain⟨dn,h1,h2⟩:=whole8 ((padB (wrB [] (blkP level true ⟨#[]⟩ s))).length/8) (padB (wrB [] (blkP level true ⟨#[]⟩ s))) (by have:=padB_mod (wrB [] (blkP level true ⟨#[]⟩ s));omega)
  exact⟨_,(strB_nums h1).trans h2⟩
 unfold strmS
 rw[dif_pos hx]
 exact hx.choose_spec
theorem strm_size (level:Nat) (s:ByteArray) (hs:s.size≤16384):(strmS level s).size≤1000000:=is_size (strm_is level s) hs
structure Fl.ok (f:Fl):Prop where
 n:checkB f.name=true
 t:tgood f.t=true
 d:f.data.size≤16384
def nosB (s:ByteArray):Bool:=decide (s.size=0)
noncomputable def headF (level:Nat) (f:Fl) (pos:Nat):Hd :=
 ⟨f.name,f.t,if f.data.size=0 then 0 else((strmS level f.data).size:Int),(f.data.size:Int),if f.data.size=0 then 0 else(crcP (byN f.data):Int),(pos:Int),nosB f.data⟩
noncomputable def fileS (level:Nat) (f:Fl) (pos:Nat):ByteArray:=locS (headF level f pos)++(if f.data.size=0 then⟨#[]⟩ else strmS level f.data)++desS (headF level f pos)
structure Mst where
 (k pos:Nat)
 (hs:List Hd)
 (rest:ByteArray)
 (tail:Bool)
structure MkAt (w:World) (lo m T level:Nat) (fs:List Fl) (vf:Value) (st:Mst) (vh:Value):Prop where
 blk:Blk m #[vf,.int .i64 level,.pointer (some ⟨T,0,none⟩),.int .i64 st.k,.int .i64 st.pos,vh,.string st.rest,.bool st.tail] 73 w
 row:w.ownsRow (m+1) 121 12 vh st.hs.length (st.hs.flatMap hdL)
 tab:TabC w T
 tT:lo≤T∧T<m
 fs:∃ A c,vf= .slice A fs.length c∧Cels w A (fs.flatMap flC)∧∀ g o,A=some ⟨g,o,none⟩→lo≤g∧g<m
def Globs (lo:Nat) (w:World):Prop:=∀ W,Below lo w W→OrdT W∧DepT W∧Tabs W
theorem Globs.here {lo:Nat} {w:World} (h:Globs lo w):OrdT w∧DepT w∧Tabs w:=h w (Below.refl _ _)
theorem Globs.below {lo:Nat} {w w':World} (h:Globs lo w) (hb:Below lo w w'):Globs lo w':=fun W hW=>h W (hb.trans hW)
theorem Globs.mono {lo lo':Nat} {w:World} (h:Globs lo w) (hl:lo≤lo'):Globs lo' w:=fun W hW=>h W (hW.mono hl)
theorem Globs.mk {w:World} (h1:OrdT w) (h2:DepT w) (h3:Tabs w):Globs w.heap.size w:=fun W hb=>⟨h1.below hb (Nat.le_refl _),h2.below hb h2.lt,h3.below hb⟩
def Upd1 (B:Nat) (cs:Array Value) (T:Nat) (w wx:World):Prop:=Turn (fun j=>j=B) w wx∧Blk B cs T wx
theorem Upd1.start {B:Nat} {cs:Array Value} {T:Nat} {w:World} (h:Blk B cs T w):Upd1 B cs T w w:=⟨Turn.refl _ _,h⟩
theorem Upd1.next {B:Nat} {cs:Array Value} {T:Nat} {w wx wy:World} (h:Upd1 B cs T w wx) (hb:Below wx.heap.size wx wy):Upd1 B cs T w wy:=⟨h.1.trans (.of_below hb),h.2.below hb⟩
theorem Upd1.set {B:Nat} {cs cs':Array Value} {T:Nat} {w wx:World} (h:Upd1 B cs T w wx) (k:Nat) (v:Value) (e:cs.setIfInBounds k v=cs'):Upd1 B cs' T w (wx.setCell ⟨B,k,none⟩ v) :=
 ⟨h.1.trans ⟨rfl,rfl,rfl,by simp[World.setCell],fun j hj hn=>Below.heap_setCell wx ⟨B,k,none⟩ v j hn⟩,h.2.setTo k v e⟩
theorem Upd1.blk {B B2:Nat} {cs cs2:Array Value} {T T2:Nat} {w wx:World} (h:Upd1 B cs T w wx) (h2:Blk B2 cs2 T2 w) (hne:B2≠B):Blk B2 cs2 T2 wx:=(h.1.block B2 h2.lt hne).trans h2
theorem Upd1.below {B B0:Nat} {cs:Array Value} {T:Nat} {w wx:World} (h:Upd1 B cs T w wx) (hB:B0≤B) (hw:B0≤w.heap.size):Below B0 w wx:=h.1.below (fun k e=>by rw[e];exact hB) hw
def Moved (m:Nat) (vh:Value) (w w':World):Prop:=Turn (fun j=>j=m∨vh.ownBlock=some j) w w'
theorem Moved.refl (m:Nat) (vh:Value) (w:World):Moved m vh w w:=Turn.refl _ _
theorem Moved.next {m:Nat} {vh:Value} {w a b:World} (h:Moved m vh w a) (hb:Below a.heap.size a b):Moved m vh w b:=h.trans (.of_below hb)
theorem Moved.under {m:Nat} {vh:Value} {w a b:World} {B:Nat} (h:Moved m vh w a) (hB:w.heap.size≤B) (hb:Below B a b):Moved m vh w b :=
 ⟨hb.os.trans h.os,hb.tape.trans h.tape,hb.output.trans h.output,Nat.le_trans h.size hb.size,fun j hj hn=>(hb.block j (by omega)).trans (h.block j hj hn)⟩
theorem Moved.upd {m:Nat} {vh:Value} {w a b:World} {B T:Nat} {cs:Array Value} (h:Moved m vh w a) (hB:w.heap.size≤B) (hu:Upd1 B cs T a b):Moved m vh w b :=
 ⟨hu.1.os.trans h.os,hu.1.tape.trans h.tape,hu.1.output.trans h.output,Nat.le_trans h.size hu.1.size,fun j hj hn=>(hu.1.block j (Nat.lt_of_lt_of_le hj h.size) (by omega)).trans (h.block j hj hn)⟩
theorem Moved.set {m:Nat} {vh:Value} {w a:World} (h:Moved m vh w a) (k:Nat) (v:Value):Moved m vh w (a.setCell ⟨m,k,none⟩ v) :=
 ⟨h.os,h.tape,h.output,by simpa[World.setCell] using h.size,fun j hj hn=>(Below.heap_setCell a ⟨m,k,none⟩ v j (fun e=>hn (.inl e))).trans (h.block j hj hn)⟩
theorem Moved.grown {m:Nat} {vh:Value} {w a b:World} (h:Moved m vh w a) (hg:a.grownBy b vh.ownBlock):Moved m vh w b :=
 ⟨hg.os.trans h.os,hg.tape.trans h.tape,hg.output.trans h.output,Nat.le_trans h.size hg.size,fun j hj hn=>(hg.block j (Nat.lt_of_lt_of_le hj h.size) (fun e=>hn (.inr e.symm))).trans (h.block j hj hn)⟩
theorem Moved.below {m lo:Nat} {vh:Value} {w a:World} (h:Moved m vh w a) (hm:lo≤m) (hv:∀ g,vh.ownBlock=some g→lo≤g) (hw:lo≤w.heap.size):Below lo w a :=
 Turn.below h (fun j hj=>by rcases hj with rfl|hj;exact hm;exact hv j hj) hw
theorem own_same {w w':World} {base T sz n:Nat} {v:Value} {xs:List Value} (h:w.ownsRow base T sz v n xs) (hb:∀ j,v.ownBlock=some j→w'.heap[j]?=w.heap[j]?):w'.ownsRow base T sz v n xs:=by
 refine⟨h.1,?_⟩
 rcases h.2 with hn|⟨g,cap,cur,rfl,h1,h2,rest⟩
 ·exact .inl hn
 ·exact .inr ⟨g,cap,cur,rfl,h1,(hb g rfl).trans h2,rest⟩
def chain3 (W0 W1 W2 W3:World):Bool→Bool→Bool→World→Prop
 | false,false,false,wx=>wx=W0
 | true,false,false,wx=>wx=W1
 | true,true,false,wx=>wx=W2
 | true,true,true,wx=>wx=W3
 | _,_,_,_=>False
theorem chain3_all {W0 W1 W2 W3:World} {R:World→Prop} (h0:R W0) (h1:R W1) (h2:R W2) (h3:R W3) {a b c:Bool} {wx:World} (h:chain3 W0 W1 W2 W3 a b c wx):R wx:=by
 cases a<;>cases b<;>cases c
 ·exact(show wx=_ from h)▸h0
 ·exact h.elim
 ·exact h.elim
 ·exact h.elim
 ·exact(show wx=_ from h)▸h1
 ·exact h.elim
 ·exact(show wx=_ from h)▸h2
 ·exact(show wx=_ from h)▸h3
theorem Moved.weak {m:Nat} {vh:Value} {w a:World} (h:Moved m (.slice none 0 0) w a):Moved m vh w a :=
 ⟨h.os,h.tape,h.output,h.size,fun j hj hn=>h.block j hj (fun e=>by rcases e with e|e;exact hn (.inl e);cases e)⟩
theorem ok_name {f:Fl} (h:f.ok):f.name.size≤65535:=by
 have hc:=h.n
 unfold checkB at hc
 simp only[Bool.and_eq_true,decide_eq_true_eq]at hc
 exact hc.1.1.2
theorem crc_lt (s:ByteArray):crcP (byN s)<4294967296:=by
 have:=csum_lt (byN s) 4294967295 (by decide) (byN_lt s)
 unfold crcP
 omega
theorem head_fine (level:Nat) (f:Fl) (pos:Nat) (h:f.ok) (hp:pos≤2000000000):FineH (headF level f pos)∧(locS (headF level f pos)).size≤70000∧(desS (headF level f pos)).size≤24:=by
 have hn:=ok_name h
 have hd:=h.d
 have hst:=strm_size level f.data hd
 have hcr:=crc_lt f.data
 have h1:0≤(headF level f pos).packed∧(headF level f pos).packed≤1000000:=by
  unfold headF
  simp only
  split<;>omega
 have h2:(headF level f pos).size=(f.data.size:Int):=rfl
 have h3:0≤(headF level f pos).sum∧(headF level f pos).sum<4294967296:=by
  unfold headF
  simp only
  split<;>omega
 have h4:(headF level f pos).pos=(pos:Int):=rfl
 have hg:goodH (headF level f pos)=true:=by
  unfold goodH
  simp only[Bool.and_eq_true,Bool.or_eq_true,decide_eq_true_eq,Bool.not_eq_true']
  refine⟨⟨⟨⟨⟨h.n,h.t⟩,by omega⟩,by omega⟩,by omega⟩,?_⟩
  by_cases h0:f.data.size=0
  ·right
   refine⟨?_,by omega⟩
   unfold headF
   simp only
   rw[if_pos h0]
  ·left
   exact decide_eq_false h0
 have hls:=locS_size hg
 have hds:=desS_size hg
 have hcs:=cenS_size hg
 have hnm:(headF level f pos).name=f.name:=rfl
 rw[hnm]at hls hcs
 have hl2:(locS (headF level f pos)).size≤70000:=by rw[hls];split<;>omega
 have hd2:(desS (headF level f pos)).size≤24:=by rw[hds];split;omega;split<;>omega
 have hc2:(cenS (headF level f pos)).size≤1000000:=by
  rw[hcs]
  split
  ·split<;>split<;>omega
  ·omega
 refine⟨⟨⟨by rw[hnm];omega,by omega,by omega,h3,by omega⟩,hg,?_,hc2,?_⟩,hl2,hd2⟩
 ·unfold nextAt
  omega
 ·omega
theorem file_size (level:Nat) (f:Fl) (pos:Nat) (h:f.ok) (hp:pos≤2000000000):(fileS level f pos).size≤1100000:=by
 obtain⟨_,h1,h2⟩:=head_fine level f pos h hp
 have hst:=strm_size level f.data h.d
 unfold fileS
 rw[ByteArray.size_append,ByteArray.size_append]
 split
 ·have:(⟨#[]⟩:ByteArray).size=0:=rfl
  omega
 ·omega
end Go.Proofs.YtgiogemkomgkhaaGreatDoor.Ar
