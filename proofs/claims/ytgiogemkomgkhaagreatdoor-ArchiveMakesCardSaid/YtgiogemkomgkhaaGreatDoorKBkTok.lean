/-
  block.coder.tokens: tokens are written by two codes.
-/
import Derived.Test.YtgiogemkomgkhaaGreatDoorKBkLz
import Derived.Test.YtgiogemkomgkhaaGreatDoorKBkB
import Derived.Test.YtgiogemkomgkhaaGreatDoorKReg
import Derived.Deep.RegionHeld3
import Derived.Deep.DeepCutAuto
set_option linter.unusedVariables false
set_option linter.unusedSimpArgs false
namespace Go.Proofs.YtgiogemkomgkhaaGreatDoor.Bk
open Go.RowKit Go.Shelf Mg Bw Ri
def tokB (ls ds:List Int) (t:Tok):List Bool :=
 if t.len=0 then wordB ls t.b.toNat
 else wordB ls (257+lenD t.len.toNat)++bitsN (lenBits (lenD t.len.toNat)) (t.len.toNat - lenLeast (lenD t.len.toNat))++wordB ds (dstD t.dist.toNat)++bitsN (dstBits (dstD t.dist.toNat)) (t.dist.toNat - dstLeast (dstD t.dist.toNat))
def toksB (ls ds:List Int) (ts:List Tok):List Bool:=ts.flatMap (tokB ls ds)
theorem toksB_take (ls ds:List Int) (ts:List Tok) (k:Nat) (h:k<ts.length):toksB ls ds (ts.take (k+1))=toksB ls ds (ts.take k)++tokB ls ds ts[k]:=by
 rw[List.take_succ_eq_append_getElem h]
 unfold toksB
 rw[List.flatMap_append]
 simp
theorem wordB_le (ls:List Int) (s:Nat):(wordB ls s).length≤15:=by
 unfold wordB
 rw[bitsN_len]
 exact(word_lt ls s).1
theorem lenD_lt (n:Nat):lenD n<29:=Nat.lt_succ_of_le (findGo_le _ _ _)
theorem dstD_lt (n:Nat):dstD n<30:=Nat.lt_succ_of_le (findGo_le _ _ _)
theorem tokB_le (ls ds:List Int) (t:Tok):(tokB ls ds t).length≤48:=by
 have h1:=wordB_le ls t.b.toNat
 have h2:=wordB_le ls (257+lenD t.len.toNat)
 have h3:=wordB_le ds (dstD t.dist.toNat)
 have h4:=(lenLeast_le _ (lenD_lt t.len.toNat)).2.2
 have h5:=(dstLeast_le _ (dstD_lt t.dist.toNat)).2.2
 unfold tokB
 split
 ·omega
 ·simp only[List.length_append,bitsN_len]
  omega
theorem toksB_le (ls ds:List Int):∀ ts:List Tok,(toksB ls ds ts).length≤48*ts.length
 | []=>by simp[toksB]
 | t::ts=>by
  have h:=toksB_le ls ds ts
  have h1:=tokB_le ls ds t
  have e:toksB ls ds (t::ts)=tokB ls ds t++toksB ls ds ts:=by simp[toksB]
  rw[e,List.length_append,List.length_cons]
  omega
def tokOk (ls ds:List Int) (t:Tok):Prop :=
 (t.len=0∧0≤t.b∧t.b<256)∨(3≤t.len∧t.len≤258∧1≤t.dist∧t.dist≤32768∧257+lenD t.len.toNat<ls.length∧dstD t.dist.toNat<ds.length)
theorem wat_below {w w':World} {base B o:Nat} {v:Value} {bs:List Bool} (h:WAt w base B o v bs) (hb:Below w.heap.size w w'):WAt w' base B o v bs:=by
 obtain⟨dn,acc,n,hr,hn,hw⟩:=h
 have e:=hb.block B hr.Bt
 have fr:∀ j,w'.cell? ⟨B,j,none⟩=w.cell? ⟨B,j,none⟩:=fun j=>World.cell?_of_block (a:=⟨B,j,none⟩) e
 refine⟨dn,acc,n,⟨own_below hr.row hb,(fr _).trans hr.c0,(fr _).trans hr.c1,(fr _).trans hr.c2,fun k=>?_,hr.ne,hr.byte,hr.lt,Nat.le_trans hr.b hb.size⟩,hn,hw⟩
 have:=hr.f0 k
 unfold World.frozen? at this ⊢
 simp only at this ⊢
 rw[e]
 exact this
theorem wrote_grow {B o:Nat} {v v':Value} {w W W2:World} (h:Wrote B o v w v' W) (hB:B<W.heap.size) (hb:Below W.heap.size W W2):Wrote B o v w v' W2 :=
 ⟨hb.os.trans h.os,hb.tape.trans h.tape,hb.output.trans h.output,Nat.le_trans h.size hb.size,fun k hk h1 h2=>(hb.block k (Nat.lt_of_lt_of_le hk h.size)).trans (h.block k hk h1 h2),fun j hj=>(World.cell?_of_block (a:=⟨B,j,none⟩) (hb.block B hB)).trans (h.rest j hj),h.own⟩
theorem wrote_canon {B o b g base:Nat} {v v':Value} {w W:World} {ls:List Int} {bs:List Bool} (h:Wrote B o v w v' W) (hw:WAt w base B o v bs) (hB:B<b) (hc:CanonAt w b g ls):CanonAt W b g ls:=hc.wrote hw hB h
theorem wrote_block {B o base:Nat} {v v':Value} {w W:World} {bs:List Bool} (h:Wrote B o v w v' W) (hw:WAt w base B o v bs) {k:Nat} {cs:Array Value} {t:TypeId} {fr:Nat×Nat} (hk:w.heap[k]?=some (.cells cs t fr)) (hB:k≠B) (ht:t≠5):W.heap[k]?=some (.cells cs t fr):=by
 refine(h.block k (Array.getElem?_eq_some_iff.1 hk).1 hB (fun e=>?_)).trans hk
 obtain⟨dn,acc,n,hr, -⟩:=hw
 rcases hr.row.2 with⟨rfl, -⟩|⟨g2,cap,cur,rfl, -,hg2, -⟩
 ·cases e
 ·simp only[Value.ownBlock,Option.some.injEq]at e
  subst e
  rw[hg2]at hk
  simp only[Option.some.injEq,Obj.cells.injEq]at hk
  exact ht hk.2.1.symm
theorem bAlloc {W0 W:World} (h:Below W0.heap.size W0 W) (X:Obj):Below W0.heap.size W0 (W.alloc X):=h.alloc h.size X
theorem keepB {W0 W W':World} {k:Nat} {b b':Bool} {c1 c2:Array Value} {t:TypeId} {fr:Nat×Nat} (hb:Below W.heap.size W W') (h:W0.heap.size≤k∧k<W.heap.size∧W.heap[k]?=some (.cells (if b=true then c1 else c2) t fr)) (e:b'=b):W0.heap.size≤k∧k<W'.heap.size∧W'.heap[k]?=some (.cells (if b'=true then c1 else c2) t fr) :=
 ⟨h.1,Nat.lt_of_lt_of_le h.2.1 hb.size,by rw[e];exact(hb.block k h.2.1).trans h.2.2⟩
theorem newB {W0 W:World} {b:Bool} {c1 c2:Array Value} {t:TypeId} (h:W0.heap.size≤W.heap.size) (e:b=false):W0.heap.size≤W.heap.size∧W.heap.size<(W.alloc (.cells c2 t)).heap.size∧(W.alloc (.cells c2 t)).heap[W.heap.size]?=some (.cells (if b=true then c1 else c2) t (0,0)) :=
 ⟨h,by simp,by rw[e];exact World.alloc_heap_new _ _⟩
theorem setB {W0 W:World} {k:Nat} {b b0:Bool} {x y z a1 a2 a3:Value} {c1 c2:Array Value} {t:TypeId} {s:Option Obj} (h:W0.heap.size≤k∧k<W.heap.size∧s=some (.cells (if b0=true then c1 else c2) t (0,0))) (hz:W.heap[k]?=some (.cells #[a1,a2,a3] t (0,0))) (e:b=true) :
  W0.heap.size≤k∧k<(((W.setCell ⟨k,0,none⟩ x).setCell ⟨k,1,none⟩ y).setCell ⟨k,2,none⟩ z).heap.size∧(((W.setCell ⟨k,0,none⟩ x).setCell ⟨k,1,none⟩ y).setCell ⟨k,2,none⟩ z).heap[k]?=some (.cells (if b=true then #[x,y,z] else c2) t (0,0)):=by
 have z1:=heap_setCell_same W k 0 _ _ x hz
 have z2:=heap_setCell_same _ k 1 _ _ y z1
 have z3:=heap_setCell_same _ k 2 _ _ z z2
 rw[e]
 exact⟨h.1,(Array.getElem?_eq_some_iff.1 z3).1,z3⟩
theorem set3B {W0 W:World} {k j:Nat} {b b':Bool} {x y z:Value} {c1 c2:Array Value} {t:TypeId} {fr:Nat×Nat} (h:W0.heap.size≤j∧j<W.heap.size∧W.heap[j]?=some (.cells (if b=true then c1 else c2) t fr)) (hj:j≠k) (e:b'=b) :
  W0.heap.size≤j∧j<(((W.setCell ⟨k,0,none⟩ x).setCell ⟨k,1,none⟩ y).setCell ⟨k,2,none⟩ z).heap.size∧(((W.setCell ⟨k,0,none⟩ x).setCell ⟨k,1,none⟩ y).setCell ⟨k,2,none⟩ z).heap[j]?=some (.cells (if b'=true then c1 else c2) t fr):=by
 have z3:(((W.setCell ⟨k,0,none⟩ x).setCell ⟨k,1,none⟩ y).setCell ⟨k,2,none⟩ z).heap[j]?=W.heap[j]?:=((heap_setCell_other _ ⟨k,2,none⟩ j z hj).trans (heap_setCell_other _ ⟨k,1,none⟩ j y hj)).trans (heap_setCell_other _ ⟨k,0,none⟩ j x hj)
 rw[e]
 exact⟨h.1,(Array.getElem?_eq_some_iff.1 (z3.trans h.2.2)).1,z3.trans h.2.2⟩
theorem bSet {W0 W:World} (h:Below W0.heap.size W0 W) {k:Nat} (hk:W0.heap.size≤k) (j:Nat) (v:Value):Below W0.heap.size W0 (W.setCell ⟨k,j,none⟩ v):=h.setCell (p:=⟨k,j,none⟩) hk v
set_option maxHeartbeats 8000000 in
set_option maxRecDepth 100000 in
theorem tokens_calls (b g base B o:Nat) (v:Value) (bs:List Bool) (ls ds:List Int) (A:Option Addr) (c:Nat) (ts:List Tok) (w:World) (hc:CoderAt w b g ls ds) (hw:WAt w base B o v bs) (hB:B<b)
  (hT:∀ v' W,Wrote B o v w v' W→TokAt W A ts) (hts:∀ t∈ts,tokOk ls ds t) (hl:257≤ls.length) (hl2:ls.length≤288) (hd2:ds.length≤288) (hn:ts.length≤1000000) (hbs:bs.length≤100000000000) :
  Calls Tryz.prog 94 #[.pointer (some ⟨g,0,none⟩),.pointer (some ⟨B,o,none⟩),.slice A ts.length c] w fun e w'=>e= .returned (.tuple #[])∧∃ v',WAt w' base B o v' (bs++toksB ls ds ts++wordB ls 256)∧Wrote B o v w v' w':=by
 obtain⟨cs,gs,gd,hg,hc0,hc1,hgb,hcs,hcd⟩:=hc.ex
 have HT:=Lib.hid hT
 have HTS:=Lib.hid hts
 have HW0:=Lib.hid hw
 have HGB:Hid (∀ W v',Wrote B o v w v' W→W.heap[g]?=some (.cells cs 183 (0,0))):=Lib.hid (fun W v' h=>wrote_block h hw hg (by omega) (by decide))
 have HCS:Hid (∀ W v',Wrote B o v w v' W→CanonAt W b gs ls):=Lib.hid (fun W v' h=>wrote_canon h hw hB hcs)
 have HCD:Hid (∀ W v',Wrote B o v w v' W→CanonAt W b gd ds):=Lib.hid (fun W v' h=>wrote_canon h hw hB hcd)
 have HLE:Hid (∀ k,k≤ts.length→(bs++toksB ls ds (ts.take k)).length≤200000000000):=Lib.hid (fun k hk=>by
  have:=toksB_le ls ds (ts.take k)
  rw[List.length_take]at this
  rw[List.length_append]
  omega)
 have HC0:=Lib.hid hc0
 have HC1:=Lib.hid hc1
 obtain⟨n,hn1⟩:∃ n,ts.length=n:=⟨_,rfl⟩
 have HN:=Lib.hid hn1
 have R0:=Lib.hid (Wrote.refl B o v w)
 rw[hn1]at hn ⊢
 clear hT hts hw hg hcs hcd hc hc0 hc1 hn1
 go_enter Tryz.func94,Tryz.ntmps94
 go_wp2
 go_loopw [12] (fun i wr=>∃ (k:Nat) (v1:Value),k≤n∧i= .int .i64 k∧WAt wr base B o v1 (bs++toksB ls ds (ts.take k))∧Wrote B o v w v1 wr) (fun i _=>n - (intOf i).toNat)
 case atStart=>exact⟨0,v,Nat.zero_le _,rfl,by simpa[toksB] using HW0.out,R0.out⟩
 case round =>
  obtain⟨k,v1,hk,rfl,hwa,hwr⟩:=hrel
  have HWA:=Lib.hid hwa
  have HWR:=Lib.hid hwr
  clear hwa hwr
  by_cases hlt:k<n
  ·have q1:decide ((k:Int)<(n:Int))=true:=decide_eq_true (by omega)
   have q1':decide (k<n)=true:=decide_eq_true (by omega)
   have k1:k<ts.length:=by rw[HN.out];exact hlt
   obtain⟨ga,oa,rfl,h1,h2,h3⟩:=HT.out v1 wr HWR.out k k1
   have hok:=HTS.out ts[k] (List.getElem_mem _)
   have HTK:=Lib.hid (toksB_take ls ds ts k k1)
   have hle:=HLE.out k (by omega)
   obtain⟨t,ht⟩:∃ t,ts[k]=t:=⟨_,rfl⟩
   rw[ht]at h1 h2 h3 hok HTK
   obtain⟨tb,tl,td⟩:=t
   simp only at h1 h2 h3
   clear ht
   obtain⟨bs1,hbs1⟩:∃ x,bs++toksB ls ds (ts.take k)=x:=⟨_,rfl⟩
   rw[hbs1]at hle HWA
   have HB1:=Lib.hid hbs1
   clear hbs1
   rcases hok with⟨he,hb0,hb1⟩|⟨hl3,hl258,hd1,hd32,hls,hds⟩
   ·simp only at he hb0 hb1
    subst he
    obtain⟨s,rfl⟩:∃ s:Nat,tb=(s:Int):=⟨tb.toNat,by omega⟩
    have hs256:s<256:=by omega
    have hsl:s<ls.length:=by omega
    go_upto_region 4 with fail
    obtain⟨K,hK⟩:∃ K,wr.heap.size=K:=⟨_,rfl⟩
    obtain⟨W1,hW1⟩:∃ W1,wr.alloc (.cells #[.int .u8 s,.int .i64 0,.int .i64 td] 151)=W1:=⟨_,rfl⟩
    have hbl:Below wr.heap.size wr W1:=by rw[← hW1];exact(Below.refl _ _).alloc (Nat.le_refl _) _
    have hKc:W1.heap[K]?=some (.cells #[.int .u8 s,.int .i64 0,.int .i64 td] 151 (0,0)):=by rw[← hW1,← hK];exact World.alloc_heap_new _ _
    have hKB:K≠B:=by have:=HWA.out.Bt;omega
    rw[hW1,hK]
    have HW1:=Lib.hid (wat_below HWA.out hbl)
    have HR1:=Lib.hid (wrote_grow HWR.out HWA.out.Bt hbl)
    obtain⟨c0,f0⟩:=cell_at (HGB.out _ _ HR1.out) 0 _ HC0.out
    obtain⟨ck,fk⟩:=cell_at hKc 0 _ rfl
    clear hW1 hK h1 h2 h3 hbl hKc
    go_still_tail 8,(by kernel_rfl)
    change wpList _ _ _ _ _ W1.drew
    have HW2:Hid (WAt W1.drew base B o v1 bs1):=Lib.hid (HW1.out.drewN 1)
    have HR2:Hid (Wrote B o v w v1 W1.drew):=Lib.hid (HR1.out.drewN 1)
    have HCW:=Lib.hid (codewrite_calls b gs s base B o v1 bs1 ls W1.drew (HCS.out _ _ HR2.out) HW2.out hsl hl2 (by omega))
    generalize W1.drew=w2 at *
    go_wp2_with fail
    refine HCW.out.mono ?_
    rintro e W3 ⟨rfl,v2,r1,r2⟩
    have HB3:Hid (bs++toksB ls ds (ts.take (k+1))=bs1++wordB ls s):=Lib.hid (by rw[HTK.out,← List.append_assoc,HB1.out];simp[tokB])
    have HW3:Hid (WAt W3 base B o v2 (bs++toksB ls ds (ts.take (k+1)))):=Lib.hid (by rw[HB3.out];exact r1)
    have HR3:=Lib.hid (HR2.out.trans r2)
    clear r1 r2 c0 f0 ck fk
    go_wp2
    go_roundw
    case rel=>exact⟨k+1,v2,by omega,by go_num,HW3.out,HR3.out⟩
    case measure=>simp[intOf];omega
   ·simp only at hl3 hl258 hd1 hd32 hls hds
    obtain⟨nl,rfl⟩:∃ nl:Nat,tl=(nl:Int):=⟨tl.toNat,by omega⟩
    obtain⟨nd,rfl⟩:∃ nd:Nat,td=(nd:Int):=⟨td.toNat,by omega⟩
    rw[Int.toNat_natCast]at hls hds
    have qz:((nl:Int) == 0)=false:=beq_eq_false_iff_ne.2 (by omega)
    have qz':(nl == 0)=false:=beq_eq_false_iff_ne.2 (by omega)
    have n1:3≤nl∧nl≤258:=by omega
    have n2:1≤nd∧nd≤32768:=by omega
    go_upto_region 5 with fail
    obtain⟨K,hK⟩:∃ K,wr.heap.size=K:=⟨_,rfl⟩
    obtain⟨W1,hW1⟩:∃ W1,wr.alloc (.cells #[.int .u8 tb,.int .i64 nl,.int .i64 nd] 151)=W1:=⟨_,rfl⟩
    have hbl:Below wr.heap.size wr W1:=by rw[← hW1];exact(Below.refl _ _).alloc (Nat.le_refl _) _
    have hKc:W1.heap[K]?=some (.cells #[.int .u8 tb,.int .i64 nl,.int .i64 nd] 151 (0,0)):=by rw[← hW1,← hK];exact World.alloc_heap_new _ _
    have hKB:K≠B:=by have:=HWA.out.Bt;omega
    rw[hW1,hK]
    have HW1:=Lib.hid (wat_below HWA.out hbl)
    have HR1:=Lib.hid (wrote_grow HWR.out HWA.out.Bt hbl)
    obtain⟨ck1,fk1⟩:=cell_at hKc 1 _ rfl
    obtain⟨ck2,fk2⟩:=cell_at hKc 2 _ rfl
    have HK1:=Lib.hid ck1
    have HK2:=Lib.hid ck2
    obtain⟨sx,hsx⟩:∃ s,257+lenD nl=s:=⟨_,rfl⟩
    obtain⟨bx,hbx⟩:∃ s,lenBits (lenD nl)=s:=⟨_,rfl⟩
    obtain⟨vx,hvx⟩:∃ s,nl - lenLeast (lenD nl)=s:=⟨_,rfl⟩
    obtain⟨sy,hsy⟩:∃ s,dstD nd=s:=⟨_,rfl⟩
    obtain⟨by_,hby⟩:∃ s,dstBits (dstD nd)=s:=⟨_,rfl⟩
    obtain⟨vy,hvy⟩:∃ s,nd - dstLeast (dstD nd)=s:=⟨_,rfl⟩
    have hbx5:bx≤5:=by rw[← hbx];exact(lenLeast_le _ (lenD_lt nl)).2.2
    have hby13:by_≤13:=by rw[← hby];exact(dstLeast_le _ (dstD_lt nd)).2.2
    have hvx2:vx≤258:=by omega
    have hvy2:vy≤32768:=by omega
    have HB3:Hid (bs++toksB ls ds (ts.take (k+1))=bs1++wordB ls sx++bitsN bx vx++wordB ds sy++bitsN by_ vy):=Lib.hid (by
     have e1:tokB ls ds ⟨tb,(nl:Int),(nd:Int)⟩=wordB ls sx++bitsN bx vx++wordB ds sy++bitsN by_ vy:=by
      unfold tokB
      rw[if_neg (show ¬ ((nl:Int)=0) by omega)]
      simp only[Int.toNat_natCast]
      rw[hsx,hbx,hvx,hby,hvy,hsy]
     rw[HTK.out,← List.append_assoc,HB1.out,e1]
     simp only[List.append_assoc])
    have HLC:Hid (∀ W,Calls Tryz.prog 114 #[.int .i64 nl] W fun e w'=>e= .returned (.agg #[.int .i64 (sx:Int),.int .i64 (bx:Int),.int .u64 (vx:Int)])∧Below W.heap.size W w'):=Lib.hid (fun W=>by
     have h:=length_calls nl W n1.1 n1.2
     unfold exLen at h
     rw[hsx,hbx,hvx]at h
     exact h)
    have HDC:Hid (∀ W,Calls Tryz.prog 115 #[.int .i64 nd] W fun e w'=>e= .returned (.agg #[.int .i64 (sy:Int),.int .i64 (by_:Int),.int .u64 (vy:Int)])∧Below W.heap.size W w'):=Lib.hid (fun W=>by
     have h:=dist_calls nd W n2.1 n2.2
     unfold exDst at h
     rw[Nat.zero_add,hby,hvy,hsy]at h
     exact h)
    rw[hsx]at hls
    rw[hsy]at hds
    have hkB:∀ k,W1.heap.size≤k→k≠B:=fun k h=>by have:=HW1.out.Bt;omega
    have HKB:=Lib.hid hkB
    clear hsx hbx hvx hsy hby hvy hkB
    clear hW1 hK h1 h2 h3 hbl hKc
    refine wp_region_at [(7,.pointer (some ⟨K,0,none⟩))] 69 (fun a0 L a' wx=>∃ (x28 x29 x30 x31 x32 x33 x8 x9:Value) (k8:Nat) (k9:Nat),a'=putL a0 [(28,x28),(29,x29),(30,x30),(31,x31),(32,x32),(33,x33),(8,x8),(9,x9)]∧Hid (L 0=true→x28= .pointer (some ⟨K,1,none⟩))∧Hid (L 1=true→x29= .int .i64 nl)∧Hid (L 2=true→x30= .agg #[.int .i64 (sx:Int),.int .i64 (bx:Int),.int .u64 (vx:Int)])∧Hid (L 3=true→x31= .pointer (some ⟨K,2,none⟩))∧Hid (L 4=true→x32= .int .i64 nd)∧Hid (L 5=true→x33= .agg #[.int .i64 (sy:Int),.int .i64 (by_:Int),.int .u64 (vy:Int)])∧Hid (L 6=true→x8= .pointer (some ⟨k8,0,none⟩))∧Hid (L 7=true→x9= .pointer (some ⟨k9,0,none⟩))∧Hid (Below W1.heap.size W1 wx)∧Hid (L 6=true→W1.heap.size≤k8∧k8<wx.heap.size∧wx.heap[k8]?=some (.cells (if L 8=true then #[.int .i64 (sx:Int),.int .i64 (bx:Int),.int .u64 (vx:Int)] else #[.int .i64 0,.int .i64 0,.int .u64 0]) 188 (0,0)))∧Hid (L 7=true→W1.heap.size≤k9∧k9<wx.heap.size∧wx.heap[k9]?=some (.cells (if L 9=true then #[.int .i64 (sy:Int),.int .i64 (by_:Int),.int .u64 (vy:Int)] else #[.int .i64 0,.int .i64 0,.int .u64 0]) 188 (0,0)))∧Hid (L 6=true→L 7=true→k8≠k9)∧Hid ((L 8=true→L 6=true)∧(L 9=true→L 7=true))) (by kernel_rfl) (by kernel_rfl) (by simp) (by simp[Olds,Act.eval]) (fun a0 hn0=>?_) (fun a0 QQ hn0 ho0=>?_) (fun L a' wx hall hI=>?_)
    ·refine⟨_,_,_,_,_,_,_,_,0,0,putL_self a0 [28,29,30,31,32,33,8,9],?_⟩
     exact⟨Lib.hid (fun h=>by cases h),Lib.hid (fun h=>by cases h),Lib.hid (fun h=>by cases h),Lib.hid (fun h=>by cases h),Lib.hid (fun h=>by cases h),Lib.hid (fun h=>by cases h),Lib.hid (fun h=>by cases h),Lib.hid (fun h=>by cases h),Lib.hid (Go.below_drewN (Below.refl _ _) 1),Lib.hid (fun h=>by cases h),Lib.hid (fun h=>by cases h),Lib.hid (fun h=>by cases h),Lib.hid ⟨fun h=>(by cases h),fun h=>(by cases h)⟩⟩
    ·obtain⟨o7, -⟩:=ho0
     refine steps_cons (fun L a' wx KK hK hL hP hI=>?_) ?_
     ·obtain⟨x28,x29,x30,x31,x32,x33,x8,x9,k8,k9,ha,h0,h1,h2,h3,h4,h5,h6,h7,wb,w8,w9,wn,wl⟩:=hI
      have e7:a'.eval (.tmp 7)= .pointer (some ⟨K,0,none⟩):=by rw[ha];exact(eval_old a0 7 [(28,x28),(29,x29),(30,x30),(31,x31),(32,x32),(33,x33),(8,x8),(9,x9)] rfl).trans o7
      have t7:a'.tmps[7]?.getD undef= .pointer (some ⟨K,0,none⟩):=by simpa[Act.eval] using e7
      have HA:=Lib.hid ha
      clear ha
      unfold Oper.wp
      simp only[execOp,e7]
      go_simp
      exact hK _ _ ⟨.pointer (some ⟨K,1,none⟩),x29,x30,x31,x32,x33,x8,x9,k8,k9,(by rw[HA.out];exact putL_setB 28 _ _ rfl rfl a0),Lib.hid (fun _=>rfl),Lib.hid (fun h=>h1.out ((upd_other L 0 1 (by decide)).symm.trans h)),Lib.hid (fun h=>h2.out ((upd_other L 0 2 (by decide)).symm.trans h)),Lib.hid (fun h=>h3.out ((upd_other L 0 3 (by decide)).symm.trans h)),Lib.hid (fun h=>h4.out ((upd_other L 0 4 (by decide)).symm.trans h)),Lib.hid (fun h=>h5.out ((upd_other L 0 5 (by decide)).symm.trans h)),Lib.hid (fun h=>h6.out ((upd_other L 0 6 (by decide)).symm.trans h)),Lib.hid (fun h=>h7.out ((upd_other L 0 7 (by decide)).symm.trans h)),wb,Lib.hid (fun h=>keepB (Below.refl _ _) (w8.out ((upd_other L 0 6 (by decide)).symm.trans h)) (upd_other L 0 8 (by decide))),Lib.hid (fun h=>keepB (Below.refl _ _) (w9.out ((upd_other L 0 7 (by decide)).symm.trans h)) (upd_other L 0 9 (by decide))),Lib.hid (fun h h2=>wn.out ((upd_other L 0 6 (by decide)).symm.trans h) ((upd_other L 0 7 (by decide)).symm.trans h2)),Lib.hid ⟨fun h=>(upd_other L 0 6 (by decide)).trans (wl.out.1 ((upd_other L 0 8 (by decide)).symm.trans h)),fun h=>(upd_other L 0 7 (by decide)).trans (wl.out.2 ((upd_other L 0 9 (by decide)).symm.trans h))⟩⟩
     refine steps_cons (fun L a' wx KK hK hL hP hI=>?_) ?_
     ·obtain⟨x28,x29,x30,x31,x32,x33,x8,x9,k8,k9,ha,h0,h1,h2,h3,h4,h5,h6,h7,wb,w8,w9,wn,wl⟩:=hI
      have p0:L 0=true:=pre_mem hP 0 (by decide)
      obtain rfl:=h0.out p0
      have v28:a'.eval (.tmp 28)= .pointer (some ⟨K,1,none⟩):=by rw[ha];exact eval_new a0 28 _ (by rw[hn0];decide) _ (rfl:slotB 28 [(28,.pointer (some ⟨K,1,none⟩)),(29,x29),(30,x30),(31,x31),(32,x32),(33,x33),(8,x8),(9,x9)]=_)
      have s28:a'.tmps[28]?.getD undef= .pointer (some ⟨K,1,none⟩):=by simpa[Act.eval] using v28
      have HA:=Lib.hid ha
      clear ha
      unfold Oper.wp
      simp only[execOp,v28]
      have ck:=(wb.out.cell (World.block_lt_of_cell? _ _ HK1.out)).trans HK1.out
      go_simp
      exact hK _ _ ⟨.pointer (some ⟨K,1,none⟩),.int .i64 nl,x30,x31,x32,x33,x8,x9,k8,k9,(by rw[HA.out];exact putL_setB 29 _ _ rfl rfl a0),Lib.hid (fun h=>h0.out ((upd_other L 1 0 (by decide)).symm.trans h)),Lib.hid (fun _=>rfl),Lib.hid (fun h=>h2.out ((upd_other L 1 2 (by decide)).symm.trans h)),Lib.hid (fun h=>h3.out ((upd_other L 1 3 (by decide)).symm.trans h)),Lib.hid (fun h=>h4.out ((upd_other L 1 4 (by decide)).symm.trans h)),Lib.hid (fun h=>h5.out ((upd_other L 1 5 (by decide)).symm.trans h)),Lib.hid (fun h=>h6.out ((upd_other L 1 6 (by decide)).symm.trans h)),Lib.hid (fun h=>h7.out ((upd_other L 1 7 (by decide)).symm.trans h)),wb,Lib.hid (fun h=>keepB (Below.refl _ _) (w8.out ((upd_other L 1 6 (by decide)).symm.trans h)) (upd_other L 1 8 (by decide))),Lib.hid (fun h=>keepB (Below.refl _ _) (w9.out ((upd_other L 1 7 (by decide)).symm.trans h)) (upd_other L 1 9 (by decide))),Lib.hid (fun h h2=>wn.out ((upd_other L 1 6 (by decide)).symm.trans h) ((upd_other L 1 7 (by decide)).symm.trans h2)),Lib.hid ⟨fun h=>(upd_other L 1 6 (by decide)).trans (wl.out.1 ((upd_other L 1 8 (by decide)).symm.trans h)),fun h=>(upd_other L 1 7 (by decide)).trans (wl.out.2 ((upd_other L 1 9 (by decide)).symm.trans h))⟩⟩
     refine steps_cons (fun L a' wx KK hK hL hP hI=>?_) ?_
     ·obtain⟨x28,x29,x30,x31,x32,x33,x8,x9,k8,k9,ha,h0,h1,h2,h3,h4,h5,h6,h7,wb,w8,w9,wn,wl⟩:=hI
      have p1:L 1=true:=pre_mem hP 1 (by decide)
      obtain rfl:=h1.out p1
      have v29:a'.eval (.tmp 29)= .int .i64 nl:=by rw[ha];exact eval_new a0 29 _ (by rw[hn0];decide) _ (rfl:slotB 29 [(28,x28),(29,.int .i64 nl),(30,x30),(31,x31),(32,x32),(33,x33),(8,x8),(9,x9)]=_)
      have s29:a'.tmps[29]?.getD undef= .int .i64 nl:=by simpa[Act.eval] using v29
      have HA:=Lib.hid ha
      clear ha
      unfold Oper.wp
      simp only[execOp,v29]
      go_simp
      refine(HLC.out _).mono ?_
      rintro e Wl ⟨rfl,hbL⟩
      exact hK _ _ ⟨x28,.int .i64 nl,.agg #[.int .i64 (sx:Int),.int .i64 (bx:Int),.int .u64 (vx:Int)],x31,x32,x33,x8,x9,k8,k9,(by rw[HA.out];exact putL_setB 30 _ _ rfl rfl a0),Lib.hid (fun h=>h0.out ((upd_other L 2 0 (by decide)).symm.trans h)),Lib.hid (fun h=>h1.out ((upd_other L 2 1 (by decide)).symm.trans h)),Lib.hid (fun _=>rfl),Lib.hid (fun h=>h3.out ((upd_other L 2 3 (by decide)).symm.trans h)),Lib.hid (fun h=>h4.out ((upd_other L 2 4 (by decide)).symm.trans h)),Lib.hid (fun h=>h5.out ((upd_other L 2 5 (by decide)).symm.trans h)),Lib.hid (fun h=>h6.out ((upd_other L 2 6 (by decide)).symm.trans h)),Lib.hid (fun h=>h7.out ((upd_other L 2 7 (by decide)).symm.trans h)),Lib.hid (wb.out.trans (hbL.mono wb.out.size)),Lib.hid (fun h=>keepB (hbL) (w8.out ((upd_other L 2 6 (by decide)).symm.trans h)) (upd_other L 2 8 (by decide))),Lib.hid (fun h=>keepB (hbL) (w9.out ((upd_other L 2 7 (by decide)).symm.trans h)) (upd_other L 2 9 (by decide))),Lib.hid (fun h h2=>wn.out ((upd_other L 2 6 (by decide)).symm.trans h) ((upd_other L 2 7 (by decide)).symm.trans h2)),Lib.hid ⟨fun h=>(upd_other L 2 6 (by decide)).trans (wl.out.1 ((upd_other L 2 8 (by decide)).symm.trans h)),fun h=>(upd_other L 2 7 (by decide)).trans (wl.out.2 ((upd_other L 2 9 (by decide)).symm.trans h))⟩⟩
     refine steps_cons (fun L a' wx KK hK hL hP hI=>?_) ?_
     ·obtain⟨x28,x29,x30,x31,x32,x33,x8,x9,k8,k9,ha,h0,h1,h2,h3,h4,h5,h6,h7,wb,w8,w9,wn,wl⟩:=hI
      have e7:a'.eval (.tmp 7)= .pointer (some ⟨K,0,none⟩):=by rw[ha];exact(eval_old a0 7 [(28,x28),(29,x29),(30,x30),(31,x31),(32,x32),(33,x33),(8,x8),(9,x9)] rfl).trans o7
      have t7:a'.tmps[7]?.getD undef= .pointer (some ⟨K,0,none⟩):=by simpa[Act.eval] using e7
      have HA:=Lib.hid ha
      clear ha
      unfold Oper.wp
      simp only[execOp,e7]
      go_simp
      exact hK _ _ ⟨x28,x29,x30,.pointer (some ⟨K,2,none⟩),x32,x33,x8,x9,k8,k9,(by rw[HA.out];exact putL_setB 31 _ _ rfl rfl a0),Lib.hid (fun h=>h0.out ((upd_other L 3 0 (by decide)).symm.trans h)),Lib.hid (fun h=>h1.out ((upd_other L 3 1 (by decide)).symm.trans h)),Lib.hid (fun h=>h2.out ((upd_other L 3 2 (by decide)).symm.trans h)),Lib.hid (fun _=>rfl),Lib.hid (fun h=>h4.out ((upd_other L 3 4 (by decide)).symm.trans h)),Lib.hid (fun h=>h5.out ((upd_other L 3 5 (by decide)).symm.trans h)),Lib.hid (fun h=>h6.out ((upd_other L 3 6 (by decide)).symm.trans h)),Lib.hid (fun h=>h7.out ((upd_other L 3 7 (by decide)).symm.trans h)),wb,Lib.hid (fun h=>keepB (Below.refl _ _) (w8.out ((upd_other L 3 6 (by decide)).symm.trans h)) (upd_other L 3 8 (by decide))),Lib.hid (fun h=>keepB (Below.refl _ _) (w9.out ((upd_other L 3 7 (by decide)).symm.trans h)) (upd_other L 3 9 (by decide))),Lib.hid (fun h h2=>wn.out ((upd_other L 3 6 (by decide)).symm.trans h) ((upd_other L 3 7 (by decide)).symm.trans h2)),Lib.hid ⟨fun h=>(upd_other L 3 6 (by decide)).trans (wl.out.1 ((upd_other L 3 8 (by decide)).symm.trans h)),fun h=>(upd_other L 3 7 (by decide)).trans (wl.out.2 ((upd_other L 3 9 (by decide)).symm.trans h))⟩⟩
     refine steps_cons (fun L a' wx KK hK hL hP hI=>?_) ?_
     ·obtain⟨x28,x29,x30,x31,x32,x33,x8,x9,k8,k9,ha,h0,h1,h2,h3,h4,h5,h6,h7,wb,w8,w9,wn,wl⟩:=hI
      have p3:L 3=true:=pre_mem hP 3 (by decide)
      obtain rfl:=h3.out p3
      have v31:a'.eval (.tmp 31)= .pointer (some ⟨K,2,none⟩):=by rw[ha];exact eval_new a0 31 _ (by rw[hn0];decide) _ (rfl:slotB 31 [(28,x28),(29,x29),(30,x30),(31,.pointer (some ⟨K,2,none⟩)),(32,x32),(33,x33),(8,x8),(9,x9)]=_)
      have s31:a'.tmps[31]?.getD undef= .pointer (some ⟨K,2,none⟩):=by simpa[Act.eval] using v31
      have HA:=Lib.hid ha
      clear ha
      unfold Oper.wp
      simp only[execOp,v31]
      have ck:=(wb.out.cell (World.block_lt_of_cell? _ _ HK2.out)).trans HK2.out
      go_simp
      exact hK _ _ ⟨x28,x29,x30,.pointer (some ⟨K,2,none⟩),.int .i64 nd,x33,x8,x9,k8,k9,(by rw[HA.out];exact putL_setB 32 _ _ rfl rfl a0),Lib.hid (fun h=>h0.out ((upd_other L 4 0 (by decide)).symm.trans h)),Lib.hid (fun h=>h1.out ((upd_other L 4 1 (by decide)).symm.trans h)),Lib.hid (fun h=>h2.out ((upd_other L 4 2 (by decide)).symm.trans h)),Lib.hid (fun h=>h3.out ((upd_other L 4 3 (by decide)).symm.trans h)),Lib.hid (fun _=>rfl),Lib.hid (fun h=>h5.out ((upd_other L 4 5 (by decide)).symm.trans h)),Lib.hid (fun h=>h6.out ((upd_other L 4 6 (by decide)).symm.trans h)),Lib.hid (fun h=>h7.out ((upd_other L 4 7 (by decide)).symm.trans h)),wb,Lib.hid (fun h=>keepB (Below.refl _ _) (w8.out ((upd_other L 4 6 (by decide)).symm.trans h)) (upd_other L 4 8 (by decide))),Lib.hid (fun h=>keepB (Below.refl _ _) (w9.out ((upd_other L 4 7 (by decide)).symm.trans h)) (upd_other L 4 9 (by decide))),Lib.hid (fun h h2=>wn.out ((upd_other L 4 6 (by decide)).symm.trans h) ((upd_other L 4 7 (by decide)).symm.trans h2)),Lib.hid ⟨fun h=>(upd_other L 4 6 (by decide)).trans (wl.out.1 ((upd_other L 4 8 (by decide)).symm.trans h)),fun h=>(upd_other L 4 7 (by decide)).trans (wl.out.2 ((upd_other L 4 9 (by decide)).symm.trans h))⟩⟩
     refine steps_cons (fun L a' wx KK hK hL hP hI=>?_) ?_
     ·obtain⟨x28,x29,x30,x31,x32,x33,x8,x9,k8,k9,ha,h0,h1,h2,h3,h4,h5,h6,h7,wb,w8,w9,wn,wl⟩:=hI
      have p4:L 4=true:=pre_mem hP 4 (by decide)
      obtain rfl:=h4.out p4
      have v32:a'.eval (.tmp 32)= .int .i64 nd:=by rw[ha];exact eval_new a0 32 _ (by rw[hn0];decide) _ (rfl:slotB 32 [(28,x28),(29,x29),(30,x30),(31,x31),(32,.int .i64 nd),(33,x33),(8,x8),(9,x9)]=_)
      have s32:a'.tmps[32]?.getD undef= .int .i64 nd:=by simpa[Act.eval] using v32
      have HA:=Lib.hid ha
      clear ha
      unfold Oper.wp
      simp only[execOp,v32]
      go_simp
      refine(HDC.out _).mono ?_
      rintro e Wl ⟨rfl,hbL⟩
      exact hK _ _ ⟨x28,x29,x30,x31,.int .i64 nd,.agg #[.int .i64 (sy:Int),.int .i64 (by_:Int),.int .u64 (vy:Int)],x8,x9,k8,k9,(by rw[HA.out];exact putL_setB 33 _ _ rfl rfl a0),Lib.hid (fun h=>h0.out ((upd_other L 5 0 (by decide)).symm.trans h)),Lib.hid (fun h=>h1.out ((upd_other L 5 1 (by decide)).symm.trans h)),Lib.hid (fun h=>h2.out ((upd_other L 5 2 (by decide)).symm.trans h)),Lib.hid (fun h=>h3.out ((upd_other L 5 3 (by decide)).symm.trans h)),Lib.hid (fun h=>h4.out ((upd_other L 5 4 (by decide)).symm.trans h)),Lib.hid (fun _=>rfl),Lib.hid (fun h=>h6.out ((upd_other L 5 6 (by decide)).symm.trans h)),Lib.hid (fun h=>h7.out ((upd_other L 5 7 (by decide)).symm.trans h)),Lib.hid (wb.out.trans (hbL.mono wb.out.size)),Lib.hid (fun h=>keepB (hbL) (w8.out ((upd_other L 5 6 (by decide)).symm.trans h)) (upd_other L 5 8 (by decide))),Lib.hid (fun h=>keepB (hbL) (w9.out ((upd_other L 5 7 (by decide)).symm.trans h)) (upd_other L 5 9 (by decide))),Lib.hid (fun h h2=>wn.out ((upd_other L 5 6 (by decide)).symm.trans h) ((upd_other L 5 7 (by decide)).symm.trans h2)),Lib.hid ⟨fun h=>(upd_other L 5 6 (by decide)).trans (wl.out.1 ((upd_other L 5 8 (by decide)).symm.trans h)),fun h=>(upd_other L 5 7 (by decide)).trans (wl.out.2 ((upd_other L 5 9 (by decide)).symm.trans h))⟩⟩
     refine steps_cons (fun L a' wx KK hK hL hP hI=>?_) ?_
     ·obtain⟨x28,x29,x30,x31,x32,x33,x8,x9,k8,k9,ha,h0,h1,h2,h3,h4,h5,h6,h7,wb,w8,w9,wn,wl⟩:=hI
      have HA:=Lib.hid ha
      clear ha
      unfold Oper.wp
      simp only[execOp]
      have hl8:L 8=false:=Bool.eq_false_iff.2 (fun h=>by rw[wl.out.1 h]at hL;cases hL)
      go_simp
      exact hK _ _ ⟨x28,x29,x30,x31,x32,x33,.pointer (some ⟨wx.heap.size,0,none⟩),x9,wx.heap.size,k9,(by rw[HA.out];exact putL_setB 8 _ _ rfl rfl a0),Lib.hid (fun h=>h0.out ((upd_other L 6 0 (by decide)).symm.trans h)),Lib.hid (fun h=>h1.out ((upd_other L 6 1 (by decide)).symm.trans h)),Lib.hid (fun h=>h2.out ((upd_other L 6 2 (by decide)).symm.trans h)),Lib.hid (fun h=>h3.out ((upd_other L 6 3 (by decide)).symm.trans h)),Lib.hid (fun h=>h4.out ((upd_other L 6 4 (by decide)).symm.trans h)),Lib.hid (fun h=>h5.out ((upd_other L 6 5 (by decide)).symm.trans h)),Lib.hid (fun _=>rfl),Lib.hid (fun h=>h7.out ((upd_other L 6 7 (by decide)).symm.trans h)),Lib.hid (bAlloc wb.out _),Lib.hid (fun _=>newB wb.out.size ((upd_other L 6 8 (by decide)).trans hl8)),Lib.hid (fun h=>keepB ((Below.refl _ _).alloc (Nat.le_refl _) _) (w9.out ((upd_other L 6 7 (by decide)).symm.trans h)) (upd_other L 6 9 (by decide))),Lib.hid (fun _ h=>Ne.symm (Nat.ne_of_lt (w9.out ((upd_other L 6 7 (by decide)).symm.trans h)).2.1)),Lib.hid ⟨fun _=>upd_same L 6,fun h=>(upd_other L 6 7 (by decide)).trans (wl.out.2 ((upd_other L 6 9 (by decide)).symm.trans h))⟩⟩
     refine steps_cons (fun L a' wx KK hK hL hP hI=>?_) ?_
     ·obtain⟨x28,x29,x30,x31,x32,x33,x8,x9,k8,k9,ha,h0,h1,h2,h3,h4,h5,h6,h7,wb,w8,w9,wn,wl⟩:=hI
      have HA:=Lib.hid ha
      clear ha
      unfold Oper.wp
      simp only[execOp]
      have hl9:L 9=false:=Bool.eq_false_iff.2 (fun h=>by rw[wl.out.2 h]at hL;cases hL)
      go_simp
      exact hK _ _ ⟨x28,x29,x30,x31,x32,x33,x8,.pointer (some ⟨wx.heap.size,0,none⟩),k8,wx.heap.size,(by rw[HA.out];exact putL_setB 9 _ _ rfl rfl a0),Lib.hid (fun h=>h0.out ((upd_other L 7 0 (by decide)).symm.trans h)),Lib.hid (fun h=>h1.out ((upd_other L 7 1 (by decide)).symm.trans h)),Lib.hid (fun h=>h2.out ((upd_other L 7 2 (by decide)).symm.trans h)),Lib.hid (fun h=>h3.out ((upd_other L 7 3 (by decide)).symm.trans h)),Lib.hid (fun h=>h4.out ((upd_other L 7 4 (by decide)).symm.trans h)),Lib.hid (fun h=>h5.out ((upd_other L 7 5 (by decide)).symm.trans h)),Lib.hid (fun h=>h6.out ((upd_other L 7 6 (by decide)).symm.trans h)),Lib.hid (fun _=>rfl),Lib.hid (bAlloc wb.out _),Lib.hid (fun h=>keepB ((Below.refl _ _).alloc (Nat.le_refl _) _) (w8.out ((upd_other L 7 6 (by decide)).symm.trans h)) (upd_other L 7 8 (by decide))),Lib.hid (fun _=>newB wb.out.size ((upd_other L 7 9 (by decide)).trans hl9)),Lib.hid (fun h _=>Nat.ne_of_lt (w8.out ((upd_other L 7 6 (by decide)).symm.trans h)).2.1),Lib.hid ⟨fun h=>(upd_other L 7 6 (by decide)).trans (wl.out.1 ((upd_other L 7 8 (by decide)).symm.trans h)),fun _=>upd_same L 7⟩⟩
     refine steps_cons (fun L a' wx KK hK hL hP hI=>?_) ?_
     ·obtain⟨x28,x29,x30,x31,x32,x33,x8,x9,k8,k9,ha,h0,h1,h2,h3,h4,h5,h6,h7,wb,w8,w9,wn,wl⟩:=hI
      have p2:L 2=true:=pre_mem hP 2 (by decide)
      obtain rfl:=h2.out p2
      have p6:L 6=true:=pre_mem hP 6 (by decide)
      obtain rfl:=h6.out p6
      have v30:a'.eval (.tmp 30)= .agg #[.int .i64 (sx:Int),.int .i64 (bx:Int),.int .u64 (vx:Int)]:=by rw[ha];exact eval_new a0 30 _ (by rw[hn0];decide) _ (rfl:slotB 30 [(28,x28),(29,x29),(30,.agg #[.int .i64 (sx:Int),.int .i64 (bx:Int),.int .u64 (vx:Int)]),(31,x31),(32,x32),(33,x33),(8,.pointer (some ⟨k8,0,none⟩)),(9,x9)]=_)
      have s30:a'.tmps[30]?.getD undef= .agg #[.int .i64 (sx:Int),.int .i64 (bx:Int),.int .u64 (vx:Int)]:=by simpa[Act.eval] using v30
      have v8:a'.eval (.tmp 8)= .pointer (some ⟨k8,0,none⟩):=by rw[ha];exact eval_new a0 8 _ (by rw[hn0];decide) _ (rfl:slotB 8 [(28,x28),(29,x29),(30,.agg #[.int .i64 (sx:Int),.int .i64 (bx:Int),.int .u64 (vx:Int)]),(31,x31),(32,x32),(33,x33),(8,.pointer (some ⟨k8,0,none⟩)),(9,x9)]=_)
      have s8:a'.tmps[8]?.getD undef= .pointer (some ⟨k8,0,none⟩):=by simpa[Act.eval] using v8
      have HA:=Lib.hid ha
      clear ha
      unfold Oper.wp
      simp only[execOp,v30,v8]
      have z:=(w8.out p6).2.2
      rw[hL]at z
      simp only[Bool.false_eq_true,if_false]at z
      have hk:=w8.out p6
      obtain⟨c0,f0⟩:=cell_at z 0 _ rfl
      obtain⟨c1,f1⟩:=cell_at z 1 _ rfl
      obtain⟨c2,f2⟩:=cell_at z 2 _ rfl
      have HZ:=Lib.hid z
      have HK:=Lib.hid hk
      clear z hk
      go_simp
      exact hK _ _ ⟨x28,x29,.agg #[.int .i64 (sx:Int),.int .i64 (bx:Int),.int .u64 (vx:Int)],x31,x32,x33,.pointer (some ⟨k8,0,none⟩),x9,k8,k9,HA.out,Lib.hid (fun h=>h0.out ((upd_other L 8 0 (by decide)).symm.trans h)),Lib.hid (fun h=>h1.out ((upd_other L 8 1 (by decide)).symm.trans h)),Lib.hid (fun h=>h2.out ((upd_other L 8 2 (by decide)).symm.trans h)),Lib.hid (fun h=>h3.out ((upd_other L 8 3 (by decide)).symm.trans h)),Lib.hid (fun h=>h4.out ((upd_other L 8 4 (by decide)).symm.trans h)),Lib.hid (fun h=>h5.out ((upd_other L 8 5 (by decide)).symm.trans h)),Lib.hid (fun h=>h6.out ((upd_other L 8 6 (by decide)).symm.trans h)),Lib.hid (fun h=>h7.out ((upd_other L 8 7 (by decide)).symm.trans h)),Lib.hid (bSet (bSet (bSet wb.out HK.out.1 _ _) HK.out.1 _ _) HK.out.1 _ _),Lib.hid (fun _=>setB HK.out HZ.out (upd_same L 8)),Lib.hid (fun h=>set3B (w9.out ((upd_other L 8 7 (by decide)).symm.trans h)) (Ne.symm (wn.out p6 ((upd_other L 8 7 (by decide)).symm.trans h))) (upd_other L 8 9 (by decide))),Lib.hid (fun h h2=>wn.out ((upd_other L 8 6 (by decide)).symm.trans h) ((upd_other L 8 7 (by decide)).symm.trans h2)),Lib.hid ⟨fun h=>(upd_other L 8 6 (by decide)).trans p6,fun h=>(upd_other L 8 7 (by decide)).trans (wl.out.2 ((upd_other L 8 9 (by decide)).symm.trans h))⟩⟩
     refine steps_cons (fun L a' wx KK hK hL hP hI=>?_) ?_
     ·obtain⟨x28,x29,x30,x31,x32,x33,x8,x9,k8,k9,ha,h0,h1,h2,h3,h4,h5,h6,h7,wb,w8,w9,wn,wl⟩:=hI
      have p5:L 5=true:=pre_mem hP 5 (by decide)
      obtain rfl:=h5.out p5
      have p7:L 7=true:=pre_mem hP 7 (by decide)
      obtain rfl:=h7.out p7
      have v33:a'.eval (.tmp 33)= .agg #[.int .i64 (sy:Int),.int .i64 (by_:Int),.int .u64 (vy:Int)]:=by rw[ha];exact eval_new a0 33 _ (by rw[hn0];decide) _ (rfl:slotB 33 [(28,x28),(29,x29),(30,x30),(31,x31),(32,x32),(33,.agg #[.int .i64 (sy:Int),.int .i64 (by_:Int),.int .u64 (vy:Int)]),(8,x8),(9,.pointer (some ⟨k9,0,none⟩))]=_)
      have s33:a'.tmps[33]?.getD undef= .agg #[.int .i64 (sy:Int),.int .i64 (by_:Int),.int .u64 (vy:Int)]:=by simpa[Act.eval] using v33
      have v9:a'.eval (.tmp 9)= .pointer (some ⟨k9,0,none⟩):=by rw[ha];exact eval_new a0 9 _ (by rw[hn0];decide) _ (rfl:slotB 9 [(28,x28),(29,x29),(30,x30),(31,x31),(32,x32),(33,.agg #[.int .i64 (sy:Int),.int .i64 (by_:Int),.int .u64 (vy:Int)]),(8,x8),(9,.pointer (some ⟨k9,0,none⟩))]=_)
      have s9:a'.tmps[9]?.getD undef= .pointer (some ⟨k9,0,none⟩):=by simpa[Act.eval] using v9
      have HA:=Lib.hid ha
      clear ha
      unfold Oper.wp
      simp only[execOp,v33,v9]
      have z:=(w9.out p7).2.2
      rw[hL]at z
      simp only[Bool.false_eq_true,if_false]at z
      have hk:=w9.out p7
      obtain⟨c0,f0⟩:=cell_at z 0 _ rfl
      obtain⟨c1,f1⟩:=cell_at z 1 _ rfl
      obtain⟨c2,f2⟩:=cell_at z 2 _ rfl
      have HZ:=Lib.hid z
      have HK:=Lib.hid hk
      clear z hk
      go_simp
      exact hK _ _ ⟨x28,x29,x30,x31,x32,.agg #[.int .i64 (sy:Int),.int .i64 (by_:Int),.int .u64 (vy:Int)],x8,.pointer (some ⟨k9,0,none⟩),k8,k9,HA.out,Lib.hid (fun h=>h0.out ((upd_other L 9 0 (by decide)).symm.trans h)),Lib.hid (fun h=>h1.out ((upd_other L 9 1 (by decide)).symm.trans h)),Lib.hid (fun h=>h2.out ((upd_other L 9 2 (by decide)).symm.trans h)),Lib.hid (fun h=>h3.out ((upd_other L 9 3 (by decide)).symm.trans h)),Lib.hid (fun h=>h4.out ((upd_other L 9 4 (by decide)).symm.trans h)),Lib.hid (fun h=>h5.out ((upd_other L 9 5 (by decide)).symm.trans h)),Lib.hid (fun h=>h6.out ((upd_other L 9 6 (by decide)).symm.trans h)),Lib.hid (fun h=>h7.out ((upd_other L 9 7 (by decide)).symm.trans h)),Lib.hid (bSet (bSet (bSet wb.out HK.out.1 _ _) HK.out.1 _ _) HK.out.1 _ _),Lib.hid (fun h=>set3B (w8.out ((upd_other L 9 6 (by decide)).symm.trans h)) (wn.out ((upd_other L 9 6 (by decide)).symm.trans h) p7) (upd_other L 9 8 (by decide))),Lib.hid (fun _=>setB HK.out HZ.out (upd_same L 9)),Lib.hid (fun h h2=>wn.out ((upd_other L 9 6 (by decide)).symm.trans h) ((upd_other L 9 7 (by decide)).symm.trans h2)),Lib.hid ⟨fun h=>(upd_other L 9 6 (by decide)).trans (wl.out.1 ((upd_other L 9 8 (by decide)).symm.trans h)),fun h=>(upd_other L 9 7 (by decide)).trans p7⟩⟩
     exact steps_nil
    ·obtain⟨x28,x29,x30,x31,x32,x33,x8,x9,k8,k9,ha,h0,h1,h2,h3,h4,h5,h6,h7,wb,w8,w9,wn,wl⟩:=hI
     rw[ha]
     obtain rfl:=h0.out (hall 0 (by decide))
     obtain rfl:=h1.out (hall 1 (by decide))
     obtain rfl:=h2.out (hall 2 (by decide))
     obtain rfl:=h3.out (hall 3 (by decide))
     obtain rfl:=h4.out (hall 4 (by decide))
     obtain rfl:=h5.out (hall 5 (by decide))
     obtain rfl:=h6.out (hall 6 (by decide))
     obtain rfl:=h7.out (hall 7 (by decide))
     simp only[putL,List.foldl_cons,List.foldl_nil]
     have r8:=w8.out (hall 6 (by decide))
     have r9:=w9.out (hall 7 (by decide))
     rw[hall 8 (by decide)]at r8
     rw[hall 9 (by decide)]at r9
     have K8:=HKB.out _ r8.1
     have K9:=HKB.out _ r9.1
     have R8:Hid (wx.heap[k8]?=some (.cells #[.int .i64 (sx:Int),.int .i64 (bx:Int),.int .u64 (vx:Int)] 188 (0,0))):=Lib.hid r8.2.2
     have R9:Hid (wx.heap[k9]?=some (.cells #[.int .i64 (sy:Int),.int .i64 (by_:Int),.int .u64 (vy:Int)] 188 (0,0))):=Lib.hid r9.2.2
     have HW5:=Lib.hid (wat_below HW1.out wb.out)
     have HR5:=Lib.hid (wrote_grow HR1.out HW1.out.Bt wb.out)
     clear r8 r9 w8 w9 wn wl h0 h1 h2 h3 h4 h5 h6 h7 ha hall ck1 ck2 fk1 fk2
     go_simp
     go_upto_region 6 with fail
     obtain⟨c0,_⟩:=cell_at (HGB.out _ _ HR5.out) 0 _ HC0.out
     obtain⟨e0,_⟩:=cell_at R8.out 0 _ rfl
     go_still_tail 7,(by kernel_rfl)
     change wpList _ _ _ _ _ (World.drew _)
     have HWd6:=Lib.hid (HW5.out.drewN 1)
     have HRd6:=Lib.hid (HR5.out.drewN 1)
     have HCW:=Lib.hid (codewrite_calls b gs sx base B o v1 bs1 ls _ (HCS.out _ _ HRd6.out) HWd6.out hls hl2 (by (try simp only[List.length_append,bitsN_len]);have:=wordB_le ls sx;have:=wordB_le ds sy;omega))
     go_wp2_with fail
     refine HCW.out.mono ?_
     rintro e W6 ⟨rfl,v6,r1,r2⟩
     have R86:=Lib.hid (wrote_block r2 HWd6.out (show(World.drew _).heap[k8]?=_ from R8.out) K8 (by decide))
     have R96:=Lib.hid (wrote_block r2 HWd6.out (show(World.drew _).heap[k9]?=_ from R9.out) K9 (by decide))
     have HW6:=Lib.hid r1
     have HR6:=Lib.hid (HRd6.out.trans r2)
     clear r1 r2 c0 e0 HCW
     obtain⟨e1,_⟩:=cell_at R86.out 1 _ rfl
     obtain⟨e2,_⟩:=cell_at R86.out 2 _ rfl
     have HCW:=Lib.hid (write_any base B o v6 (bs1++wordB ls sx) vx bx _ HW6.out (by omega) (by omega) (by (try simp only[List.length_append,bitsN_len]);have:=wordB_le ls sx;have:=wordB_le ds sy;omega))
     go_wp2_with fail
     refine HCW.out.mono ?_
     rintro e W7 ⟨rfl,v7,r1,r2⟩
     have R97:=Lib.hid (wrote_block r2 HW6.out R96.out K9 (by decide))
     have HW7:=Lib.hid r1
     have HR7:=Lib.hid (HR6.out.trans r2)
     clear r1 r2 e1 e2 HCW
     go_wp2_with fail
     obtain⟨c0,_⟩:=cell_at (HGB.out _ _ HR7.out) 1 _ HC1.out
     obtain⟨e0,_⟩:=cell_at R97.out 0 _ rfl
     go_still_tail 7,(by kernel_rfl)
     change wpList _ _ _ _ _ (World.drew _)
     have HWd8:=Lib.hid (HW7.out.drewN 1)
     have HRd8:=Lib.hid (HR7.out.drewN 1)
     have HCW:=Lib.hid (codewrite_calls b gd sy base B o v7 (bs1++wordB ls sx++bitsN bx vx) ds _ (HCD.out _ _ HRd8.out) HWd8.out hds hd2 (by (try simp only[List.length_append,bitsN_len]);have:=wordB_le ls sx;have:=wordB_le ds sy;omega))
     go_wp2_with fail
     refine HCW.out.mono ?_
     rintro e W8 ⟨rfl,v8,r1,r2⟩
     have R98:=Lib.hid (wrote_block r2 HWd8.out (show(World.drew _).heap[k9]?=_ from R97.out) K9 (by decide))
     have HW8:=Lib.hid r1
     have HR8:=Lib.hid (HRd8.out.trans r2)
     clear r1 r2 c0 e0 HCW
     obtain⟨e1,_⟩:=cell_at R98.out 1 _ rfl
     obtain⟨e2,_⟩:=cell_at R98.out 2 _ rfl
     have HCW:=Lib.hid (write_any base B o v8 (bs1++wordB ls sx++bitsN bx vx++wordB ds sy) vy by_ _ HW8.out (by omega) (by omega) (by (try simp only[List.length_append,bitsN_len]);have:=wordB_le ls sx;have:=wordB_le ds sy;omega))
     go_wp2_with fail
     refine HCW.out.mono ?_
     rintro e W9 ⟨rfl,v9,r1,r2⟩
     have HW9:Hid (WAt W9 base B o v9 (bs++toksB ls ds (ts.take (k+1)))):=Lib.hid (by rw[HB3.out];exact r1)
     have HR9:=Lib.hid (HR8.out.trans r2)
     clear r1 r2 e1 e2 HCW
     go_wp2
     go_roundw
     case rel=>exact⟨k+1,v9,by omega,by go_num,HW9.out,HR9.out⟩
     case measure=>simp[intOf];omega
  ·obtain rfl:k=n:=by omega
   have q1:decide ((k:Int)<(k:Int))=false:=decide_eq_false (by omega)
   have hfin:bs++toksB ls ds (ts.take k)=bs++toksB ls ds ts:=by rw[List.take_of_length_le (by rw[HN.out];exact Nat.le_refl _)]
   have hle:=HLE.out k (by have:=HN.out;omega)
   rw[hfin]at HWA hle
   obtain⟨c0,_⟩:=cell_at (HGB.out _ _ HWR.out) 0 _ HC0.out
   have HCW:=Lib.hid (codewrite_calls b gs 256 base B o v1 (bs++toksB ls ds ts) ls wr (HCS.out _ _ HWR.out) HWA.out (by omega) hl2 (by omega))
   clear hfin
   go_wp2_with fail
   refine HCW.out.mono ?_
   rintro e W6 ⟨rfl,v6,r1,r2⟩
   have HW6:=Lib.hid r1
   have HR6:=Lib.hid (HWR.out.trans r2)
   clear r1 r2 c0 HCW
   go_wp2
   go_end0
   exact⟨rfl,v6,HW6.out,HR6.out⟩
end Go.Proofs.YtgiogemkomgkhaaGreatDoor.Bk
