/-
  parse.Tail: central headers, and the end.
-/
import Derived.Test.YtgiogemkomgkhaaGreatDoorKZpCentral
set_option linter.unusedVariables false
set_option linter.unusedSimpArgs false
namespace Go.Proofs.YtgiogemkomgkhaaGreatDoor.Ar
open Go.RowKit Go.Shelf Zp YtgiogemkomgkhaaGreatDoor.Nm
theorem _root_.Go.Proofs.YtgiogemkomgkhaaGreatDoor.Zp.Blk.other {B b:Nat} {cs:Array Value} {T:Nat} {w:World} (h:Blk B cs T w) (hne:B≠b) (k:Nat) (v:Value):Blk B cs T (w.setCell ⟨b,k,none⟩ v):=by
 unfold Blk
 rw[Below.heap_setCell _ _ _ _ hne]
 exact h
def Cels (w:World) (A:Option Addr) (cs:List Value):Prop:=∀ k (h:k<cs.length),∃ g o,A=some ⟨g,o,none⟩∧w.cell? ⟨g,o+k,none⟩=some cs[k]
theorem Cels.below {w w':World} {A:Option Addr} {cs:List Value} (h:Cels w A cs) (hb:Below w.heap.size w w'):Cels w' A cs:=fun k hk=>by
 obtain⟨g,o,e,h1⟩:=h k hk
 exact⟨g,o,e,(hb.cell (World.block_lt_of_cell? w _ h1)).trans h1⟩
theorem Cels.at {w:World} {A:Option Addr} {cs:List Value} (h:Cels w A cs) {g o:Nat} (e:A=some ⟨g,o,none⟩) (k:Nat) (v:Value) (hv:cs[k]?=some v):w.cell? ⟨g,o+k,none⟩=some v:=by
 obtain⟨hk,hv2⟩:=List.getElem?_eq_some_iff.1 hv
 obtain⟨g2,o2,e2,h1⟩:=h k hk
 rw[e]at e2
 cases e2
 rw[h1,hv2]
theorem Cels.nil (w:World) (A:Option Addr):Cels w A []:=fun k h=>by simp at h
theorem cels_own {w:World} {base T sz n c:Nat} {A:Option Addr} {cs:List Value} (h:w.ownsRow base T sz (.slice A n c) n cs):Cels w A cs:=fun k hk=>by
 have hl:=h.1
 rcases h.2 with⟨h0,rfl⟩|⟨g,cap,cur,h0,_,hg,hnc,_,hcs,ht⟩
 ·rw[Nat.zero_mul]at hl
  omega
 ·cases h0
  refine⟨g,0,rfl,?_⟩
  have h1:cs[k]?=some cs[k]:=List.getElem?_eq_getElem hk
  have h2:cs[k]?=cur.toList[k]?:=by rw[← ht,List.getElem?_take];simp;omega
  simp only[World.cell?,hg,Nat.zero_add]
  rw[← h1,h2,Array.getElem?_toList]
  rfl
section
variable {α:Type} (f:α→List Value) (n:Nat)
theorem flat_len (hf:∀ x,(f x).length=n):∀ l:List α,(l.flatMap f).length=l.length*n
 | []=>by simp
 | x::l=>by rw[List.flatMap_cons,List.length_append,flat_len hf l,hf,List.length_cons,Nat.succ_mul];omega
theorem flat_get (hf:∀ x,(f x).length=n):∀ (l:List α) (j:Nat) (x:α) (hj:l[j]?=some x) (k:Nat) (hk:k<n),(l.flatMap f)[j*n+k]?=(f x)[k]?
 | [],j,x,hj,_,_=>by simp at hj
 | y::l,0,x,hj,k,hk=>by
  simp only[List.getElem?_cons_zero,Option.some.injEq]at hj
  subst hj
  rw[List.flatMap_cons,Nat.zero_mul,Nat.zero_add,List.getElem?_append_left (by rw[hf];exact hk)]
 | y::l,j+1,x,hj,k,hk=>by
  rw[List.flatMap_cons,List.getElem?_append_right (by rw[hf,Nat.succ_mul];omega),hf]
  rw[show(j+1)*n+k - n=j*n+k by rw[Nat.succ_mul];omega]
  exact flat_get hf l j x (by simpa using hj) k hk
end
theorem Cels.of {α:Type} {f:α→List Value} {n:Nat} (hf:∀ x,(f x).length=n) {w:World} {A:Option Addr} {l:List α} (h:Cels w A (l.flatMap f)) (hn:0<n) (j:Nat) (x:α) (hj:l[j]?=some x) :
  ∃ g o,A=some ⟨g,o,none⟩∧∀ k v,(f x)[k]?=some v→w.cell? ⟨g,o+j*n+k,none⟩=some v:=by
 have hg:=flat_get f n hf l j x hj
 have h0:=hg 0 hn
 rw[List.getElem?_eq_getElem (l:=f x) (by rw[hf];exact hn)]at h0
 obtain⟨h1, -⟩:=List.getElem?_eq_some_iff.1 h0
 obtain⟨g,o,e, -⟩:=h _ h1
 refine⟨g,o,e,fun k v hv=>?_⟩
 have hk:k<n:=by
  obtain⟨h2, -⟩:=List.getElem?_eq_some_iff.1 hv
  rw[hf]at h2
  exact h2
 rw[Nat.add_assoc]
 exact h.at e _ v ((hg k hk).trans hv)
structure Fl where
 (name:ByteArray)
 (t:Tm)
 (data:ByteArray)
def flC (f:Fl):List Value:= [.string f.name,.int .i64 f.t.y,.int .i64 f.t.mo,.int .i64 f.t.d,.int .i64 f.t.h,.int .i64 f.t.mi,.int .i64 f.t.s,.string f.data]
theorem flC_len (f:Fl):(flC f).length=8:=rfl
def hdL (h:Hd):List Value:= [.string h.name,.int .i64 h.t.y,.int .i64 h.t.mo,.int .i64 h.t.d,.int .i64 h.t.h,.int .i64 h.t.mi,.int .i64 h.t.s,.int .u64 h.packed,.int .u64 h.size,.int .u32 h.sum,.int .u64 h.pos,.bool h.kept]
theorem hdL_len (h:Hd):(hdL h).length=12:=rfl
end Go.Proofs.YtgiogemkomgkhaaGreatDoor.Ar
namespace Go.Proofs.YtgiogemkomgkhaaGreatDoor.Ar
open Go.RowKit Go.Shelf Zp YtgiogemkomgkhaaGreatDoor.Nm
def catL (hs:List Hd):List UInt8:=hs.flatMap fun h=>(cenS h).data.toList
def nextAt (h:Hd):Int:=h.pos+(locS h).size+h.packed+(desS h).size
def tailAt:List Hd→Int→Int
 | [],a=>a
 | h::l,_=>tailAt l (nextAt h)
theorem tailAt_snoc (l:List Hd) (h:Hd):∀ a,tailAt (l ++ [h]) a=nextAt h:=by
 induction l with
 | nil=>intro a;rfl
 | cons x l ih=>intro a;exact ih _
def tailS (hs:List Hd):ByteArray:=⟨(catL hs).toArray⟩++endS hs.length (catL hs).length (tailAt hs 0)
structure FineH (h:Hd):Prop where
 ok:h.ok
 g:goodH h=true
 m:0≤nextAt h∧nextAt h<4611686018427387904
 c:(cenS h).size≤1000000
 p:0≤h.pos+(locS h).size∧h.pos+(locS h).size<4611686018427387904∧h.pos+(locS h).size+h.packed<4611686018427387904
theorem catL_snoc (l:List Hd) (h:Hd):catL (l ++ [h])=catL l++(cenS h).data.toList:=by simp[catL]
theorem catL_len (l:List Hd) (h:∀ x∈l,(cenS x).size≤1000000):(catL l).length≤1000000*l.length:=by
 induction l with
 | nil=>simp[catL]
 | cons x l ih =>
  have h1:=h x List.mem_cons_self
  have h2:=ih (fun y hy=>h y (List.mem_cons_of_mem _ hy))
  have e:(catL (x::l)).length=(cenS x).size+(catL l).length:=by
   unfold catL
   rw[List.flatMap_cons,List.length_append]
   rfl
  rw[e,List.length_cons]
  omega
theorem wstr_calls (B b:Nat) (bs:List Value) (s:ByteArray) (w:World) (h:Lib.IsBuilderF 103 5 B b bs w) (hlen:bs.length+s.size≤140737488355328) (hBw:B≤w.heap.size) :
  Calls Tryz.prog 43 #[.pointer (some ⟨b,0,none⟩),.string s] w fun e w'=>e= .returned (.tuple #[.int .i64 s.size,.nilIface])∧(Lib.BuilderAtF 103 5 B b (.pointer (some ⟨b,0,none⟩)) (bs++Lib.strCells s) w'∧Below B w w') :=
 Any.Builder_WriteString_f { Tryz.lays156 with } Tryz.Builder_Extra_156 B b bs s w h hlen hBw
theorem bf_under {T e:TypeId} {B b:Nat} {bs:List Value} {w w':World} (h:Lib.IsBuilderF T e B b bs w) (hb:Below w.heap.size w w'):Lib.IsBuilderF T e B b bs w':=by
 have hx:∀ p,Lib.BuilderAtF T e B b p bs w→Lib.BuilderAtF T e B b p bs w':=by
  rintro p ⟨h1,v,h2,h3,h4⟩
  refine⟨h1,v,(hb.block _ (Array.getElem?_eq_some_iff.1 h2).1).trans h2,?_,h4⟩
  refine⟨h3.1,?_⟩
  rcases h3.2 with hn|⟨g,cap,cur,fr,h5,h6,h7,rest⟩
  ·exact .inl hn
  ·exact .inr ⟨g,cap,cur,fr,h5,h6,(hb.block _ (Array.getElem?_eq_some_iff.1 h7).1).trans h7,rest⟩
 rcases h with h|h
 ·exact .inl (hx _ h)
 ·exact .inr (hx _ h)
theorem endS_le (c z a:Int):(endS c z a).size≤200:=by
 unfold endS
 by_cases h1:c<4611686018427387904∧z<4611686018427387904∧a<4611686018427387904
 ·rw[if_pos h1]
  by_cases h2:65534<c∨4294967294<z∨4294967294<a
  ·rw[if_pos h2]
   simp only[ByteArray.size_append,puI_2,puI_4,puI_8,verS_size,narS_size]
   decide
  ·rw[if_neg h2]
   simp only[ByteArray.size_append,puI_2,puI_4,puI_8,verS_size,narS_size]
   decide
 ·rw[if_neg h1]
  decide
theorem bf_fresh (w:World):Lib.IsBuilderF 103 5 w.heap.size w.heap.size [] (w.alloc (.cells #[.pointer none,.slice none 0 0] 103)):=by
 rcases Lib.fresh_isBuilder 103 5 w with h|h
 ·exact .inl (Lib.BuilderAtF.of h)
 ·exact .inr (Lib.BuilderAtF.of h)
set_option maxHeartbeats 4000000 in
set_option maxRecDepth 100000 in
theorem tail_calls (A:Option Addr) (c:Nat) (hs:List Hd) (w:World) (hA:Cels w A (hs.flatMap hdL)) (hn:hs.length≤1048576) (hf:∀ h∈hs,FineH h) (hT:Tabs w) :
  Calls Tryz.prog 38 #[.slice A hs.length c] w fun e w'=>e= .returned (.string (tailS hs))∧Below w.heap.size w w':=by
 have HA:=Lib.hid hA
 have HF:=Lib.hid hf
 have HT:=Lib.hid hT
 have K0:=Lib.hid (bf_fresh w)
 have B0:=Lib.hid ((Below.refl w.heap.size w).alloc (Nat.le_refl _) (.cells #[.pointer none,.slice none 0 0] 103))
 obtain⟨n,hn0⟩:∃ n,hs.length=n:=⟨_,rfl⟩
 have HN:=Lib.hid hn0
 rw[hn0]at hn
 rw[hn0]
 clear hA hf hT hn0
 go_enter Tryz.func38,Tryz.ntmps38
 go_upto_region 4 with fail
 obtain⟨B,hB⟩:∃ B,w.heap.size=B:=⟨_,rfl⟩
 have HBB:=Lib.hid hB
 obtain⟨w1,hw1⟩:∃ w1,w.alloc (.cells #[.pointer none,.slice none 0 0] 103)=w1:=⟨_,rfl⟩
 rw[hw1,hB]at K0 B0
 rw[hw1,hB]
 clear hw1 hB
 go_loopw [4,9] (fun va vi wr=>∃ k:Nat,k≤n∧vi= .int .i64 k∧va= .int .u64 (tailAt (hs.take k) 0)∧Lib.IsBuilderF 103 5 B B (Lib.byteCells (catL (hs.take k))) wr∧Below B w wr) (fun _ vi _=>n - (intOf vi).toNat)
 case atStart=>exact⟨0,Nat.zero_le _,rfl,rfl,K0.out,B0.out⟩
 case round =>
  obtain⟨k,hk,rfl,rfl,hbf,hbl⟩:=hrel
  have HBF:=Lib.hid hbf
  have HBL:=Lib.hid hbl
  clear hbf hbl K0 B0
  by_cases hlt:k<n
  ·have q1:decide ((k:Int)<(n:Int))=true:=decide_eq_true (by omega)
   have q1':decide (k<n)=true:=decide_eq_true hlt
   have hkl:k<hs.length:=by rw[HN.out];exact hlt
   obtain⟨g,o,rfl,hc⟩:=(HA.out.below (by rw[HBB.out];exact HBL.out)).of hdL_len (by decide) k hs[k] (List.getElem?_eq_getElem hkl)
   have hfk:=HF.out hs[k] (List.getElem_mem hkl)
   have HTK:Hid (hs.take (k+1)=hs.take k ++ [hs[k]]):=Lib.hid (List.take_succ_eq_append_getElem hkl)
   obtain⟨h,hh⟩:∃ h,hs[k]=h:=⟨_,rfl⟩
   rw[hh]at hc hfk HTK
   have HFK:=Lib.hid hfk
   obtain⟨⟨hn0,hp0,hs0,hu0,ha0⟩,hg0,hm0,hcz,hpl⟩:=hfk
   have hlc:=local_calls h
   have hde:=descr_calls h
   have hce:=central_calls h
   have hgo:=hgood_calls h
   rw[hg0]at hgo
   obtain⟨name,⟨y,mo,d,hh',mi,s⟩,packed,size,sum,pos,kept⟩:=h
   have c0:=hc 0 _ rfl
   have c1:=hc 1 _ rfl
   have c2:=hc 2 _ rfl
   have c3:=hc 3 _ rfl
   have c4:=hc 4 _ rfl
   have c5:=hc 5 _ rfl
   have c6:=hc 6 _ rfl
   have c7:=hc 7 _ rfl
   have c8:=hc 8 _ rfl
   have c9:=hc 9 _ rfl
   have c10:=hc 10 _ rfl
   have c11:=hc 11 _ rfl
   simp only[Nat.add_zero]at c0 c1 c2 c3 c4 c5 c6 c7 c8 c9 c10 c11
   have i0:(0:Int)≤(k:Int):=by omega
   have i1:(k:Int)<(n:Int):=by omega
   clear hc hh
   simp only[Hd.val]at hlc hde hce hgo
   obtain⟨LS,hLS⟩:∃ LS,locS ⟨name,⟨y,mo,d,hh',mi,s⟩,packed,size,sum,pos,kept⟩=LS:=⟨_,rfl⟩
   obtain⟨DS,hDS⟩:∃ DS,desS ⟨name,⟨y,mo,d,hh',mi,s⟩,packed,size,sum,pos,kept⟩=DS:=⟨_,rfl⟩
   obtain⟨CS,hCS⟩:∃ CS,cenS ⟨name,⟨y,mo,d,hh',mi,s⟩,packed,size,sum,pos,kept⟩=CS:=⟨_,rfl⟩
   have hTk:=HT.out.below (by rw[HBB.out];exact HBL.out)
   have HNX:Hid (tailAt (hs.take (k+1)) 0=pos+LS.size+packed+DS.size):=Lib.hid (by rw[HTK.out,tailAt_snoc,← hLS,← hDS];rfl)
   have HLN:Hid ((Lib.byteCells (catL (hs.take k))).length≤1000000*k):=Lib.hid (by rw[Lib.byteCells_length];exact Nat.le_trans (catL_len _ (fun x hx=>(HF.out x (List.mem_of_mem_take hx)).c)) (Nat.mul_le_mul_left _ (by rw[List.length_take];omega)))
   have HCX:Hid (Lib.byteCells (catL (hs.take k))++Lib.strCells CS=Lib.byteCells (catL (hs.take (k+1)))):=Lib.hid (by rw[HTK.out,catL_snoc,hCS,Lib.strCells_eq,← Lib.byteCells_append])
   unfold nextAt at hm0
   dsimp only at hm0 hpl hn0 hp0 hs0 hu0 ha0
   rw[hLS,hDS]at hm0
   rw[hLS]at hpl hlc
   rw[hDS]at hde
   rw[hCS]at hce hcz
   have HL:Hid (∀ W,Tabs W→Calls Tryz.prog 59 #[.agg #[.string name,.int .i64 y,.int .i64 mo,.int .i64 d,.int .i64 hh',.int .i64 mi,.int .i64 s,.int .u64 packed,.int .u64 size,.int .u32 sum,.int .u64 pos,.bool kept]] W fun e w'=>e= .returned (.string LS)∧Below W.heap.size W w'):=Lib.hid (fun W hT=>hlc W HFK.out.ok hT)
   have HD:Hid (∀ W,Tabs W→Calls Tryz.prog 60 #[.agg #[.string name,.int .i64 y,.int .i64 mo,.int .i64 d,.int .i64 hh',.int .i64 mi,.int .i64 s,.int .u64 packed,.int .u64 size,.int .u32 sum,.int .u64 pos,.bool kept]] W fun e w'=>e= .returned (.string DS)∧Below W.heap.size W w'):=Lib.hid (fun W hT=>hde W HFK.out.ok hT)
   have HC:Hid (∀ W,Tabs W→Calls Tryz.prog 62 #[.agg #[.string name,.int .i64 y,.int .i64 mo,.int .i64 d,.int .i64 hh',.int .i64 mi,.int .i64 s,.int .u64 packed,.int .u64 size,.int .u32 sum,.int .u64 pos,.bool kept]] W fun e w'=>e= .returned (.string CS)∧Below W.heap.size W w'):=Lib.hid (fun W hT=>hce W HFK.out.ok hT)
   have HG:Hid (∀ W,Tabs W→Calls Tryz.prog 61 #[.agg #[.string name,.int .i64 y,.int .i64 mo,.int .i64 d,.int .i64 hh',.int .i64 mi,.int .i64 s,.int .u64 packed,.int .u64 size,.int .u32 sum,.int .u64 pos,.bool kept]] W fun e w'=>e= .returned (.bool true)∧Below W.heap.size W w'):=Lib.hid (fun W hT=>hgo W hn0 hT)
   have hwl:IntKind.u64.wrap (LS.size:Int)=(LS.size:Int):=by rw[IntKind.wrap_u64];omega
   have hwd:IntKind.u64.wrap (DS.size:Int)=(DS.size:Int):=by rw[IntKind.wrap_u64];omega
   clear hlc hde hce hgo hLS hDS hCS
   go_upto_region 6 with fail
   have KB:=Blk.new wr #[.string name,.int .i64 y,.int .i64 mo,.int .i64 d,.int .i64 hh',.int .i64 mi,.int .i64 s,.int .u64 packed,.int .u64 size,.int .u32 sum,.int .u64 pos,.bool kept] 121
   have BA:=(Below.refl wr.heap.size wr).alloc (Nat.le_refl _) (.cells #[.string name,.int .i64 y,.int .i64 mo,.int .i64 d,.int .i64 hh',.int .i64 mi,.int .i64 s,.int .u64 packed,.int .u64 size,.int .u32 sum,.int .u64 pos,.bool kept] 121)
   have HBF2:=bf_under HBF.out BA
   have HBL2:=HBL.out.trans (BA.mono (by have:=HBL.out.size;have:=HBB.out;omega))
   have hT2:=hTk.below (BA.mono (Nat.le_refl _))
   have hBz:=HBL.out.size
   obtain⟨K,hK⟩:∃ K,wr.heap.size=K:=⟨_,rfl⟩
   obtain⟨W,hW⟩:∃ W,wr.alloc (.cells #[.string name,.int .i64 y,.int .i64 mo,.int .i64 d,.int .i64 hh',.int .i64 mi,.int .i64 s,.int .u64 packed,.int .u64 size,.int .u32 sum,.int .u64 pos,.bool kept] 121)=W:=⟨_,rfl⟩
   rw[hK]at KB hBz
   rw[hW]at KB HBF2 HBL2 hT2
   rw[hW,hK]
   obtain⟨U,f,HAB⟩:=above W.heap.size W
   have d0:=HAB.cell KB KB.lt 0 (.string name) rfl
   have d1:=HAB.cell KB KB.lt 1 (.int .i64 y) rfl
   have d2:=HAB.cell KB KB.lt 2 (.int .i64 mo) rfl
   have d3:=HAB.cell KB KB.lt 3 (.int .i64 d) rfl
   have d4:=HAB.cell KB KB.lt 4 (.int .i64 hh') rfl
   have d5:=HAB.cell KB KB.lt 5 (.int .i64 mi) rfl
   have d6:=HAB.cell KB KB.lt 6 (.int .i64 s) rfl
   have d7:=HAB.cell KB KB.lt 7 (.int .u64 packed) rfl
   have d8:=HAB.cell KB KB.lt 8 (.int .u64 size) rfl
   have d9:=HAB.cell KB KB.lt 9 (.int .u32 sum) rfl
   have d10:=HAB.cell KB KB.lt 10 (.int .u64 pos) rfl
   have d11:=HAB.cell KB KB.lt 11 (.bool kept) rfl
   have HU:=Lib.hid HAB
   have HTU:Hid (∀ u,Tabs (f u)):=Lib.hid (fun u=>hT2.below (HAB.below u))
   have HFU:Hid (∀ u,Lib.IsBuilderF 103 5 B B (Lib.byteCells (catL (hs.take k))) (f u)):=Lib.hid (fun u=>bf_under HBF2 (HAB.below u))
   obtain⟨u0,hu0⟩:=HAB.start
   have hne:Nonempty U:=⟨u0⟩
   have HE:Hid (∀ u,Below B w (f u)):=Lib.hid (fun u=>HBL2.trans ((HAB.below u).mono (by have:=HBL2.size;have:=HBB.out;omega)))
   clear HAB KB hT2 HBF2 HBL2 BA hK hW hTk c0 c1 c2 c3 c4 c5 c6 c7 c8 c9 c10 c11 hBz HBF HBL
   rw[hu0]
   clear hu0
   go_wp2_with (go_at_call 61;refine(HG.out _ (HTU.out _)).mono ?_;rintro e w1 ⟨rfl,hb⟩;obtain⟨u1,rfl⟩:=HU.out.next (Nat.le_refl _) hb;clear hb)
   refine wp_region_class (C:=fun w'=>∃ u,w'=f u) (by kernel_rfl) (by kernel_rfl) (HU.out.drew _) ?_
   repeat (go_big_quiet_step (first|(go_at_call 59;refine(HL.out _ (HTU.out _)).mono ?_;rintro e w1 ⟨rfl,hb⟩;exact⟨rfl,HU.out.next (Nat.le_refl _) hb⟩)|(go_at_call 60;refine(HD.out _ (HTU.out _)).mono ?_;rintro e w1 ⟨rfl,hb⟩;exact⟨rfl,HU.out.next (Nat.le_refl _) hb⟩)))
   refine wpQuiet_nil ?_
   rintro wx ⟨u2,rfl⟩
   go_wp2_with (go_at_call 62;refine(HC.out _ (HTU.out _)).mono ?_;rintro e w1 ⟨rfl,hb⟩;obtain⟨u1,rfl⟩:=HU.out.next (Nat.le_refl _) hb;clear hb)
   refine(wstr_calls B B _ CS _ (HFU.out _) (by have:=HLN.out;omega) (by have:=(HE.out u1).size;have:=HBB.out;omega)).mono ?_
   rintro e w3 ⟨rfl,hb3,hbl3⟩
   have HN3:Hid (Lib.IsBuilderF 103 5 B B (Lib.byteCells (catL (hs.take (k+1)))) w3):=Lib.hid (by rw[← HCX.out];exact .inr hb3)
   have HB3:=Lib.hid ((HE.out u1).trans hbl3)
   clear hb3 hbl3
   go_wp2
   go_roundw
   case rel=>exact⟨k+1,by omega,by go_num,by rw[HNX.out],HN3.out,HB3.out⟩
   case measure=>simp[intOf];omega
  ·obtain rfl:k=n:=by omega
   have q1:decide ((k:Int)<(k:Int))=false:=decide_eq_false (by omega)
   have q1':decide (k<k)=false:=decide_eq_false (by omega)
   have hall:hs.take k=hs:=List.take_of_length_le (by rw[HN.out];exact Nat.le_refl _)
   rw[hall]at HBF
   rw[hall]
   clear hall
   have HLN:Hid ((catL hs).length≤1000000*k):=Lib.hid (by rw[← HN.out];exact catL_len _ (fun x hx=>(HF.out x hx).c))
   have hta:0≤tailAt hs 0∧tailAt hs 0<4611686018427387904:=by
    rcases List.eq_nil_or_concat hs with e|⟨l,x,e⟩
    ·rw[e];exact⟨by decide,by decide⟩
    ·have:=(HF.out x (by rw[e];simp)).m
     rw[e,List.concat_eq_append,tailAt_snoc]
     exact this
   have HR:Hid (tailS hs=⟨(catL hs).toArray⟩++endS hs.length (catL hs).length (tailAt hs 0)):=Lib.hid rfl
   rw[HN.out]at HR
   generalize tailAt hs 0=ta at *
   have hcl:=HLN.out
   generalize hcat:catL hs=CL at *
   clear hcat
   obtain⟨z,hz⟩:∃ z,CL.length=z:=⟨_,rfl⟩
   have hbz:(Lib.byteCells CL).length=z:=by rw[Lib.byteCells_length,hz]
   rw[hz]at hcl HR
   have hwk:IntKind.u64.wrap (k:Int)=(k:Int):=by rw[IntKind.wrap_u64];omega
   have hwz:IntKind.u64.wrap (z:Int)=(z:Int):=by rw[IntKind.wrap_u64];omega
   obtain⟨SS,hSS⟩:∃ SS:ByteArray,⟨CL.toArray⟩=SS:=⟨_,rfl⟩
   have hss:SS.size=z:=by rw[← hSS,← hz];simp[ByteArray.size]
   have HSTR:=Lib.hid (Tryz.Builder_String_any_f B B CL wr HBF.out)
   rw[hSS]at HR HSTR
   obtain⟨ES,hES⟩:∃ ES,endS (k:Int) (z:Int) ta=ES:=⟨_,rfl⟩
   have hes:ES.size≤200:=by rw[← hES];exact endS_le _ _ _
   have HEN:=Lib.hid (fun W=>end_calls (k:Int) (z:Int) ta W (by omega) (by omega) (by omega) (by omega) (by omega) (by omega))
   rw[hES]at HR HEN
   clear hz HLN hSS hES
   have hBz:B≤wr.heap.size:=by have:=HBL.out.size;have:=HBB.out;omega
   go_wp2_with fail
   refine(HSTR.out hBz).mono ?_
   rintro e w2 ⟨rfl,hbf2,hb2⟩
   have HBF2:=Lib.hid hbf2
   have HB2:=Lib.hid (HBL.out.trans hb2)
   clear hbf2 hb2 hBz
   go_wp2_with fail
   refine(Tryz.Builder_Len_f B B _ w2 HBF2.out).mono ?_
   rintro e w3 ⟨rfl,rfl⟩
   rw[hbz]
   clear hbz
   go_wp2_with fail
   refine(HEN.out _).mono ?_
   rintro e w4 ⟨rfl,hb4⟩
   have HB4:=Lib.hid (HB2.out.trans (hb4.mono (by have:=HB2.out.size;have:=HBB.out;omega)))
   clear hb4
   go_wp2
   go_ret
   exact⟨by rw[HR.out]<;>rfl,by rw[HBB.out];exact HB4.out⟩
end Go.Proofs.YtgiogemkomgkhaaGreatDoor.Ar
