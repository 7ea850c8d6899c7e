/-
  The reference of layer 7: the lengths of a Dynamic block are told again.
-/
import Derived.Test.YtgiogemkomgkhaaGreatDoorKCnAll
import Derived.Test.YtgiogemkomgkhaaGreatDoorKMgE
import Derived.Test.YtgiogemkomgkhaaGreatDoorKBwAdd
import Derived.Test.YtgiogemkomgkhaaGreatDoorKZpP
import Derived.Test.YtgiogemkomgkhaaGreatDoorKBkD
import Derived.Test.YtgiogemkomgkhaaGreatDoorKBkW
import Derived.BigQuiet
set_option linter.unusedVariables false
set_option linter.unusedSimpArgs false
namespace Go.Proofs.YtgiogemkomgkhaaGreatDoor.Cn
open Bw Mg
def msbL:Nat→Nat→List Bool
 | 0,_=> []
 | n+1,c=>msbL n (c/2) ++ [decide (c % 2=1)]
theorem bitsN_cons (j out b:Nat) (hb:b<2):bitsN (j+1) (out*2+b)=decide (b=1)::bitsN j out:=by
 rw[Nat.add_comm j 1,bitsN_app 1 j]
 have h1:bitsN 1 (out*2+b)= [decide (b=1)]:=by
  unfold bitsN
  simp only[List.range_one,List.map_cons,List.map_nil,Nat.testBit_zero]
  congr 1
  have:(out*2+b) % 2=b:=by omega
  rw[this]
 have h2:(out*2+b)/2 ^ 1=out:=by omega
 rw[h1,h2]
 rfl
end Go.Proofs.YtgiogemkomgkhaaGreatDoor.Cn
namespace Go.Proofs.YtgiogemkomgkhaaGreatDoor.Rf
open Go.RowKit Go.Shelf Mg Bw Bk Cn
def bitI (b:Bool):Int:=if b then 1 else 0
def bitsI (bs:List Bool):List Int:=bs.map bitI
theorem strN_get (s:ByteArray) (i:Nat) (h:i<s.size):(strN s)[i]'(by rw[strN_len];exact h)=s[i].toNat:=by
 unfold strN
 rw[List.getElem_map]
 rfl
def strBk (s:ByteArray) (i:Nat):List Bool:=((strN s).take i).flatMap (bitsN 8)
theorem flat8_len:∀ l:List Nat,(l.flatMap (bitsN 8)).length=8*l.length
 | []=>rfl
 | x::l=>by rw[List.flatMap_cons,List.length_append,bitsN_len,flat8_len l,List.length_cons];omega
theorem strB_len (s:ByteArray):(strB s).length=8*s.size:=by
 unfold strB
 rw[flat8_len,strN_len]
def numB:List Bool→Nat
 | []=>0
 | b::bs=>2*numB bs+(if b then 1 else 0)
theorem numB_lt:∀ bs:List Bool,numB bs<2 ^ bs.length
 | []=>by decide
 | b::bs=>by
  have:=numB_lt bs
  rw[numB,List.length_cons,Nat.pow_succ]
  split<;>omega
theorem numB_bits:∀ (n v:Nat),numB (bitsN n v)=v % 2 ^ n
 | 0,v=>by rw[bitsN_zero,Nat.pow_zero,Nat.mod_one];rfl
 | n+1,v=>by
  have e:bitsN (n+1) v=decide (v % 2=1)::bitsN n (v/2):=by
   have:=bitsN_cons n (v/2) (v % 2) (Nat.mod_lt _ (by omega))
   rw[← this]
   congr 1
   omega
  rw[e,numB,numB_bits n (v/2),Nat.pow_succ]
  have h1:v % (2 ^ n*2)=v % 2+2*(v/2 % 2 ^ n):=by
   rw[Nat.mul_comm,Nat.mod_mul]
  rw[h1]
  have h2:v % 2<2:=Nat.mod_lt _ (by omega)
  split
  ·rename_i h;simp at h;omega
  ·rename_i h;simp at h;omega
def BitsAt (w:World) (A:Option Addr) (bs:List Bool):Prop:=Reads w A (bitsI bs)
theorem BitsAt.below {w w':World} {A:Option Addr} {bs:List Bool} (h:BitsAt w A bs) (hb:Below w.heap.size w w'):BitsAt w' A bs:=Reads.below h hb
end Go.Proofs.YtgiogemkomgkhaaGreatDoor.Rf
namespace Go.Proofs.YtgiogemkomgkhaaGreatDoor.Rf
open Go.RowKit Go.Shelf Mg Bw Bk Cn Zp
set_option maxRecDepth 100000 in
theorem conv_one (v:Int) (W:World):(convert 101 9 (.slice (some ⟨W.heap.size,0,none⟩) 1 1)).run Tryz.prog (W.alloc (.cells #[.int .u8 v] 5))= .ok (.string (strOfNums [v])) (W.alloc (.cells #[.int .u8 v] 5)):=by
 have hcell:∀ i,i<1→(W.alloc (.cells #[.int .u8 v] 5)).cell? ⟨W.heap.size,0+i,none⟩=some (.int .u8 (([v]:List Int).getD i 0)):=fun i hi=>by
  obtain rfl:i=0:=by omega
  simp only[World.cell?]
  rw[World.alloc_heap_new]
  rfl
 exact run_convert_bytes_arg (P:=Tryz.prog) (w:=W.alloc (.cells #[.int .u8 v] 5)) 101 5 Tryz.underlying101 Tryz.underlying5 W.heap.size 0 1 1 [v] rfl hcell 9 Tryz.underlying9
def txt (bs:List Bool):ByteArray:=strOfNums (bs.map fun b=>48+bitI b)
end Go.Proofs.YtgiogemkomgkhaaGreatDoor.Rf
namespace Go.Proofs.YtgiogemkomgkhaaGreatDoor.Rf
open Go.RowKit Go.Shelf Mg Bw Bk Cn Zp
def strC (n:Nat) (f:Nat→ByteArray):Array Value:=((List.range n).map fun i=>Value.string (f i)).toArray
def RowS (w:World) (B n:Nat) (f:Nat→ByteArray):Prop:=w.heap[B]?=some (.cells (strC n f) 9 (0,0))
theorem strC_get (n:Nat) (f:Nat→ByteArray) (i:Nat) (h:i<n):(strC n f)[i]?=some (.string (f i)):=by
 unfold strC
 simp[h]
theorem RowS.cell {w:World} {B n:Nat} {f:Nat→ByteArray} (h:RowS w B n f) (i:Nat) (hi:i<n):w.cell? ⟨B,i,none⟩=some (.string (f i))∧w.frozen? ⟨B,i,none⟩=false:=cell_at h i _ (strC_get n f i hi)
theorem RowS.below {w w':World} {B n:Nat} {f:Nat→ByteArray} (h:RowS w B n f) (hb:Below w.heap.size w w'):RowS w' B n f:=(hb.block B (Array.getElem?_eq_some_iff.1 h).1).trans h
theorem RowS.set {w:World} {B n:Nat} {f:Nat→ByteArray} (h:RowS w B n f) (i:Nat) (s:ByteArray) (g:Nat→ByteArray) (hg:∀ j,j<n→g j=if j=i then s else f j):RowS (w.setCell ⟨B,i,none⟩ (.string s)) B n g:=by
 have h2:=heap_setCell_same w B i _ _ (.string s) h
 have e:(strC n f).setIfInBounds i (.string s)=strC n g:=by
  apply Array.ext_getElem?
  intro j
  rw[Array.getElem?_setIfInBounds]
  have hsz:(strC n f).size=n:=by simp[strC]
  by_cases hj:j<n
  ·rw[strC_get n g j hj,hg j hj]
   by_cases hij:i=j
   ·subst hij
    rw[if_pos rfl,if_pos (by rw[hsz];exact hj),if_pos rfl]
   ·rw[if_neg hij,if_neg (Ne.symm hij),strC_get n f j hj]
  ·have h3:(strC n g)[j]?=none:=Array.getElem?_eq_none (by simp[strC];omega)
   have h4:(strC n f)[j]?=none:=Array.getElem?_eq_none (by simp[strC];omega)
   rw[h3,h4]
   split
   ·split
    ·rename_i h5 h6;rw[hsz]at h6;omega
    ·rfl
   ·rfl
 unfold RowS
 rw[← e]
 exact h2
def upW (ls:List Int) (m k s:Nat):List Bool:=if 1≤ls.getD s 0∧(ls.getD s 0<m∨ls.getD s 0=m∧s<k) then wordB ls s else []
end Go.Proofs.YtgiogemkomgkhaaGreatDoor.Rf
namespace Go.Proofs.YtgiogemkomgkhaaGreatDoor.Rf
open Go.RowKit Go.Shelf Mg Bw Bk Cn Zp
def First (ls:List Int) (bs:List Bool) (s:Nat):Prop:=s<ls.length∧0<ls.getD s 0∧wordB ls s <+: bs∧∀ t,t<s→wordB ls t= []∨¬ wordB ls t <+: bs
end Go.Proofs.YtgiogemkomgkhaaGreatDoor.Rf
namespace Go.Proofs.YtgiogemkomgkhaaGreatDoor.Rf
open Go.RowKit Go.Shelf Mg Bw Bk Cn Zp
def oneN (l:List Int):Nat:=l.count 1
def whyOk (ls:List Int) (loose:Bool):Prop:=tot 15 ls=32768∨(tot 15 ls<32768∧loose=true∧(posN ls=0∨(posN ls=1∧oneN ls=1)))
end Go.Proofs.YtgiogemkomgkhaaGreatDoor.Rf
namespace Go.Proofs.YtgiogemkomgkhaaGreatDoor.Rf
open Go.RowKit Go.Shelf Mg Bw Bk Cn Zp
theorem own_base {w:World} {b b' T size n:Nat} {v:Value} {xs:List Value} (h:w.ownsRow b T size v n xs) (hb:b'≤b):w.ownsRow b' T size v n xs:=by
 obtain⟨h1,h2|⟨g,cap,cur,h3,h4,h5⟩⟩:=h
 ·exact⟨h1,.inl h2⟩
 ·exact⟨h1,.inr ⟨g,cap,cur,h3,Nat.le_trans hb h4,h5⟩⟩
end Go.Proofs.YtgiogemkomgkhaaGreatDoor.Rf
namespace Go.Proofs.YtgiogemkomgkhaaGreatDoor.Rf
open Go.RowKit Go.Shelf Mg Bw Bk Cn Zp
def row3 (s l b:Int):List Value:= [.int .i64 s,.int .i64 l,.int .i64 b]
def lenRow (d:Nat):List Value:=row3 (257+(d:Int)) (lenLeast d:Int) (lenBits d:Int)
def dstRow (d:Nat):List Value:=row3 (d:Int) (dstLeast d:Int) (dstBits d:Int)
def lenRows (n:Nat):List Value:=(List.range n).flatMap lenRow
def dstRows (n:Nat):List Value:=(List.range n).flatMap dstRow
def atL (n:Nat):Nat:=(stepsP n 3 8 4).1
def atD (n:Nat):Nat:=(stepsP n 1 4 2).1
def szP (j:Nat):Nat:=2 ^ (j+1)
end Go.Proofs.YtgiogemkomgkhaaGreatDoor.Rf
namespace Go.Proofs.YtgiogemkomgkhaaGreatDoor.Rf
open Go.RowKit Go.Shelf Mg Bw Bk Cn Zp
end Go.Proofs.YtgiogemkomgkhaaGreatDoor.Rf
namespace Go.Proofs.YtgiogemkomgkhaaGreatDoor.Zp
end Go.Proofs.YtgiogemkomgkhaaGreatDoor.Zp
namespace Go.Proofs.YtgiogemkomgkhaaGreatDoor.Rf
open Go.RowKit Go.Shelf Mg Bw Bk Cn Zp
end Go.Proofs.YtgiogemkomgkhaaGreatDoor.Rf
namespace Go.Proofs.YtgiogemkomgkhaaGreatDoor.Rf
open Go.RowKit Go.Shelf Mg Bw Bk Cn Zp
theorem own_cell1 {w:World} {base n g cap:Nat} {e:TypeId} {xs:List Value} (h:w.ownsRow base e 1 (.slice (some ⟨g,0,none⟩) n cap) n xs) (j:Nat) (v:Value) (hj:xs[j]?=some v):w.cell? ⟨g,j,none⟩=some v:=by
 have:=h.cells (g:=g) rfl j v hj
 have hadd:(⟨g,0,none⟩:Addr).add j=⟨g,j,none⟩:=by unfold Addr.add;split<;>simp_all
 rw[hadd]at this
 exact this
set_option maxHeartbeats 4000000 in
set_option maxRecDepth 100000 in
theorem drain_calls (base B o:Nat) (g c acc n:Nat) (dn:List Nat) (w:World) (h:WRaw w base B o (.slice (some ⟨g,0,none⟩) dn.length c) dn acc n) (hl:dn.length≤1000000000) :
  Calls Tryz.prog 46 #[.pointer (some ⟨B,o,none⟩)] w fun e w'=>e= .returned (.string (strOfNums (dn.map fun x:Nat=>(x:Int))))∧w'=w.setCell ⟨B,o,none⟩ (.slice (some ⟨g,0,none⟩) 0 c):=by
 obtain⟨hr,c0,c1,c2,f0, -,hbyte, -, -⟩:=h
 have g0:=f0 o
 have hcell:∀ i,i<dn.length→w.cell? ⟨g,0+i,none⟩=some (.int .u8 ((dn.map fun x:Nat=>(x:Int)).getD i 0)):=fun i hi=>by
  have h2:=own_cell1 hr i (.int .u8 ((dn.map fun x:Nat=>(x:Int)).getD i 0)) (by simp[byV,hi])
  rw[Nat.zero_add]
  exact h2
 obtain⟨N,hN⟩:∃ N,dn.length=N:=⟨_,rfl⟩
 rw[hN]at hr c0 hl hcell
 have hconv:=run_convert_bytes_arg (P:=Tryz.prog) (w:=w) 101 5 Tryz.underlying101 Tryz.underlying5 g 0 N c (dn.map fun x:Nat=>(x:Int)) (by simp[hN]) hcell 9 Tryz.underlying9
 obtain⟨S,hS⟩:∃ S,strOfNums (dn.map fun x:Nat=>(x:Int))=S:=⟨_,rfl⟩
 rw[hS]at hconv ⊢
 clear hcell hr c1 c2 hbyte f0 hS hN
 go_enter Tryz.func46,Tryz.ntmps46
 go_wp2
 go_ret
 exact⟨rfl,rfl⟩
end Go.Proofs.YtgiogemkomgkhaaGreatDoor.Rf
namespace Go.Proofs.YtgiogemkomgkhaaGreatDoor.Rf
open Go.RowKit Go.Shelf Mg Bw Bk Cn Zp
theorem rows3_cell {w:World} {base g n c:Nat} {T:TypeId} {xs:List Value} (h:w.ownsRow base T 3 (.slice (some ⟨g,0,none⟩) n c) n xs) (j:Nat) (v:Value) (hj:xs[j]?=some v):w.cell? ⟨g,j,none⟩=some v:=by
 have:=h.cells (g:=g) rfl j v hj
 have hadd:(⟨g,0,none⟩:Addr).add j=⟨g,j,none⟩:=by unfold Addr.add;split<;>simp_all
 rw[hadd]at this
 exact this
end Go.Proofs.YtgiogemkomgkhaaGreatDoor.Rf
namespace Go.Proofs.YtgiogemkomgkhaaGreatDoor.Rf
open Go.RowKit Go.Shelf Mg Bw Bk Cn Zp
def u8V (l:List Int):List Value:=l.map (Value.int .u8)
def copyT (d:Nat) (out:List Int):Nat→List Int
 | 0=>out
 | n+1=>copyT d out n ++ [(copyT d out n).getD ((copyT d out n).length - d) 0]
def expT (out:List Int) (t:Tok):List Int:=if t.len=0 then out ++ [t.b] else copyT t.dist.toNat out t.len.toNat
def expTs (out:List Int) (ts:List Tok):List Int:=ts.foldl expT out
def fitTs:List Int→List Tok→Prop
 | _,[]=>True
 | out,t::ts=>(t.len=0∨t.dist≤(out.length:Int))∧fitTs (expT out t) ts
theorem expTs_cons (out:List Int) (t:Tok) (ts:List Tok):expTs out (t::ts)=expTs (expT out t) ts:=rfl
def tokW (ls ds:List Int) (t:Tok):Prop :=
 (t.len=0∧0≤t.b∧t.b<256∧t.b.toNat<ls.length∧0<ls.getD t.b.toNat 0) ∨
 (3≤t.len∧t.len≤258∧1≤t.dist∧t.dist≤32768∧257+lenD t.len.toNat<ls.length∧0<ls.getD (257+lenD t.len.toNat) 0∧dstD t.dist.toNat<ds.length∧0<ds.getD (dstD t.dist.toNat) 0)
structure Grew (v:Value) (w:World) (v':Value) (w':World):Prop where
 grown:w.grownBy w' v.ownBlock
 own:∀ k,v'.ownBlock=some k→v.ownBlock=some k∨w.heap.size≤k
theorem Grew.refl (v:Value) (w:World):Grew v w v w:=⟨⟨rfl,rfl,rfl,Nat.le_refl _,fun _ _ _=>rfl⟩,fun _ h=> .inl h⟩
theorem Grew.trans {v1 v2 v3:Value} {a b c:World} (h:Grew v1 a v2 b) (k:Grew v2 b v3 c):Grew v1 a v3 c :=
 ⟨⟨k.grown.os.trans h.grown.os,k.grown.tape.trans h.grown.tape,k.grown.output.trans h.grown.output,Nat.le_trans h.grown.size k.grown.size,fun i hi hne=>by
  refine(k.grown.block i (Nat.lt_of_lt_of_le hi h.grown.size) (fun e=>?_)).trans (h.grown.block i hi hne)
  rcases h.own i e.symm with h1|h1
  ·exact hne h1.symm
  ·omega⟩,fun i e=>by
  rcases k.own i e with h1|h1
  ·exact h.own i h1
  ·exact .inr (Nat.le_trans h.grown.size h1)⟩
theorem Grew.more {v v':Value} {a b c:World} (h:Grew v a v' b) (k:Below b.heap.size b c):Grew v a v' c :=
 h.trans ⟨grown_below _ k,fun _ e=> .inl e⟩
theorem Grew.drewN {v v':Value} {a b:World} (h:Grew v a v' b) (q:Nat):Grew v a v' (b.drewN q):=h.more (Go.below_drewN (Below.refl _ _) q)
theorem Grew.below {v v':Value} {w w':World} {base:Nat} (h:Grew v w v' w') (hv:∀ k,v.ownBlock=some k→base≤k) (hb:base≤w.heap.size):Below base w w' :=
 (Below.refl base w).grown h.grown hb hv
theorem Grew.block {v v':Value} {w w':World} (h:Grew v w v' w') {k:Nat} (hk:k<w.heap.size) (hne:v.ownBlock≠some k):w'.heap[k]?=w.heap[k]?:=h.grown.block k hk (fun e=>hne e.symm)
theorem Grew.ne {v v':Value} {w w':World} (h:Grew v w v' w') {k:Nat} (hk:k<w.heap.size) (hne:v.ownBlock≠some k):v'.ownBlock≠some k:=fun e=>by
 rcases h.own k e with h1|h1
 ·exact hne h1
 ·omega
theorem Grew.reads {v v':Value} {w w':World} (h:Grew v w v' w') {A:Option Addr} {l:List Int} (hA:Reads w A l) (hne:∀ g o,A=some ⟨g,o,none⟩→v.ownBlock≠some g):Reads w' A l:=fun j hj=>by
 obtain⟨g,o,e,hc⟩:=hA j hj
 refine⟨g,o,e,?_⟩
 exact(World.cell?_of_block (h.block (World.block_lt_of_cell? w _ hc) (hne g o e))).trans hc
end Go.Proofs.YtgiogemkomgkhaaGreatDoor.Rf
namespace Go.Proofs.YtgiogemkomgkhaaGreatDoor.Rf
open Go.RowKit Go.Shelf Mg Bw Bk Cn Zp
def ordI (s:Nat):Nat:=ordT.findIdx (· == s)
def partZ (z:List Int) (k:Nat):List Int:=(List.range 19).map fun s=>if ordI s<k then z.getD s 0 else 0
end Go.Proofs.YtgiogemkomgkhaaGreatDoor.Rf
namespace Go.Proofs.YtgiogemkomgkhaaGreatDoor.Rf
open Go.RowKit Go.Shelf Mg Bw Bk Cn Zp
end Go.Proofs.YtgiogemkomgkhaaGreatDoor.Rf
namespace Go.Proofs.YtgiogemkomgkhaaGreatDoor.Rf
open Go.RowKit Go.Shelf Mg Bw Bk Cn Zp
def ordI':List Int:= [16,17,18,0,8,7,9,6,10,5,11,4,12,3,13,2,14,1,15]
theorem own_form {w:World} {base T size n:Nat} {v:Value} {xs:List Value} (h:w.ownsRow base T size v n xs):∃ g c,v= .slice g n c:=by
 rcases h.2 with⟨rfl,rfl⟩|⟨g,cap,cur,rfl, -⟩
 ·exact⟨_,_,rfl⟩
 ·exact⟨_,_,rfl⟩
end Go.Proofs.YtgiogemkomgkhaaGreatDoor.Rf
namespace Go.Proofs.YtgiogemkomgkhaaGreatDoor.Rf
open Go.RowKit Go.Shelf Mg Bw Bk Cn Zp
structure Blk where
 (kind:Nat) (last:Bool) (ts:List Tok) (s:ByteArray)
def wrB (P:List Bool) (b:Blk):List Bool:=if b.kind=0 then storedB P b.last b.s else P++blockB b.kind b.last b.ts
def wrBs (P:List Bool) (l:List Blk):List Bool:=l.foldl wrB P
def strI (s:ByteArray):List Int:=(strN s).map fun x:Nat=>(x:Int)
def outB (out:List Int) (b:Blk):List Int:=if b.kind=0 then out++strI b.s else expTs out b.ts
def outBs (out:List Int) (l:List Blk):List Int:=l.foldl outB out
def okB (out:List Int) (b:Blk):Prop:=b.kind≤2∧b.s.size≤65535∧(b.kind≠0→b.ts.length≤65535∧(∀ t∈b.ts,tokIn t)∧fitTs out b.ts)
def okBs:List Int→List Blk→Prop
 | _,[]=>True
 | out,b::l=>okB out b∧b.last=l.isEmpty∧okBs (outB out b) l
theorem flat8_inj:∀ (a b:List Nat),(∀ x∈a,x<256)→(∀ x∈b,x<256)→a.flatMap (bitsN 8)=b.flatMap (bitsN 8)→a=b
 | [],[],_,_,_=>rfl
 | [],y::b,_,_,h=>by
  have:=congrArg List.length h
  rw[List.flatMap_cons,List.length_append,bitsN_len,List.flatMap_nil,List.length_nil]at this
  omega
 | x::a,[],_,_,h=>by
  have:=congrArg List.length h
  rw[List.flatMap_cons,List.length_append,bitsN_len,List.flatMap_nil,List.length_nil]at this
  omega
 | x::a,y::b,ha,hb,h=>by
  rw[List.flatMap_cons,List.flatMap_cons]at h
  obtain⟨h1,h2⟩:=List.append_inj h (by rw[bitsN_len,bitsN_len])
  have h3:=congrArg numB h1
  rw[numB_bits,numB_bits,Nat.mod_eq_of_lt (ha x List.mem_cons_self),Nat.mod_eq_of_lt (hb y List.mem_cons_self)]at h3
  rw[h3,flat8_inj a b (fun z hz=>ha z (List.mem_cons_of_mem _ hz)) (fun z hz=>hb z (List.mem_cons_of_mem _ hz)) h2]
theorem strN_lt (s:ByteArray):∀ x∈strN s,x<256:=by
 intro x hx
 obtain⟨u,_,rfl⟩:=List.mem_map.1 hx
 exact u.toNat_lt
theorem strN_inj {a b:ByteArray} (h:strN a=strN b):a=b:=by
 apply ByteArray.ext
 apply Array.ext'
 unfold strN at h
 exact(List.map_inj_right (fun x y e=>UInt8.toNat_inj.1 e)).1 h
theorem strN_extract (s:ByteArray) (a b:Nat):strN (s.extract a b)=((strN s).drop a).take (b - a):=by
 unfold strN
 rw[ByteArray.data_extract,Array.toList_extract,List.extract_eq_take_drop,List.map_take,List.map_drop]
theorem strN_append (a b:ByteArray):strN (a++b)=strN a++strN b:=by
 unfold strN
 rw[ByteArray.data_append,Array.toList_append,List.map_append]
theorem strN_nums (l:List Nat) (h:∀ x∈l,x<256):strN (strOfNums (l.map fun x:Nat=>(x:Int)))=l:=by
 unfold strN
 rw[strOfNums_data,List.map_map,List.map_map]
 refine(List.map_congr_left fun x hx=>?_).trans (List.map_id l)
 have:=h x hx
 simp only[Function.comp_apply,id]
 simp
 omega
theorem ext_all (s:ByteArray):s.extract 0 s.size=s:=by
 apply strN_inj
 rw[strN_extract,List.drop_zero,Nat.sub_zero,List.take_of_length_le (by rw[strN_len];omega)]
end Go.Proofs.YtgiogemkomgkhaaGreatDoor.Rf
namespace Go.Proofs.YtgiogemkomgkhaaGreatDoor.Rf
open Go.RowKit Go.Shelf Mg Bw Bk Cn Zp
end Go.Proofs.YtgiogemkomgkhaaGreatDoor.Rf
namespace Go.Proofs.YtgiogemkomgkhaaGreatDoor.Rf
open Go.RowKit Go.Shelf Mg Bw Bk Cn Zp
theorem conv_nil (W:World):(convert 101 9 (.slice none 0 0)).run Tryz.prog W= .ok (.string ⟨#[]⟩) W:=by kernel_rfl
end Go.Proofs.YtgiogemkomgkhaaGreatDoor.Rf
