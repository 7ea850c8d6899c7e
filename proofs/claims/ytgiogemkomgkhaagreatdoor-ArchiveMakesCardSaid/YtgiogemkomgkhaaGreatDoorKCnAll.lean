/-
  The words of a code by its lengths: plain.
-/
import Derived.Test.YtgiogemkomgkhaaGreatDoorKBwAll
import Derived.Test.YtgiogemkomgkhaaGreatDoorKMgE
set_option linter.unusedVariables false
set_option linter.unusedSimpArgs false
namespace Go.Proofs.YtgiogemkomgkhaaGreatDoor.Cn
open Bw
def turnGo:Nat→Nat→Nat→Nat
 | 0,out,_=>out
 | k+1,out,v=>turnGo k (out*2+v % 2) (v/2)
def turnN (n v:Nat):Nat:=turnGo n 0 v
theorem turnGo_lt:∀ (k out v:Nat),turnGo k out v<(out+1)*2 ^ k
 | 0,out,v=>by simp[turnGo]
 | k+1,out,v=>by
  have h:=turnGo_lt k (out*2+v % 2) (v/2)
  rw[turnGo]
  refine Nat.lt_of_lt_of_le h ?_
  rw[Nat.pow_succ,Nat.mul_comm (2 ^ k) 2,← Nat.mul_assoc]
  exact Nat.mul_le_mul_right _ (by omega)
theorem turnN_lt (n v:Nat):turnN n v<2 ^ n:=by
 have:=turnGo_lt n 0 v
 simpa[turnN] using this
def cntL (ls:List Int) (m:Nat):Nat:=ls.count (m:Int)
def nxP (ls:List Int):Nat→Nat
 | 0=>0
 | m+1=>2*(nxP ls m+if m=0 then 0 else cntL ls m)
def codeP (ls:List Int) (s:Nat):Nat:=nxP ls (ls.getD s 0).toNat+cntL (ls.take s) (ls.getD s 0).toNat
def wordP (ls:List Int) (s:Nat):Nat×Nat:=if 1≤ls.getD s 0∧ls.getD s 0≤15 then(turnN (ls.getD s 0).toNat (codeP ls s),(ls.getD s 0).toNat) else(0,0)
def upP (ls:List Int) (m k s:Nat):Nat×Nat:=if 1≤ls.getD s 0∧(ls.getD s 0<m∨ls.getD s 0=m∧s<k) then(turnN (ls.getD s 0).toNat (codeP ls s),(ls.getD s 0).toNat) else(0,0)
theorem up_start (ls:List Int) (s:Nat):upP ls 1 0 s=(0,0):=by
 unfold upP
 rw[if_neg]
 omega
theorem up_next (ls:List Int) (m s:Nat) (hs:s<ls.length):upP ls m ls.length s=upP ls (m+1) 0 s:=by
 unfold upP
 have e:(1≤ls.getD s 0∧(ls.getD s 0<(m:Int)∨ls.getD s 0=(m:Int)∧s<ls.length))↔(1≤ls.getD s 0∧(ls.getD s 0<((m+1:Nat):Int)∨ls.getD s 0=((m+1:Nat):Int)∧s<0)):=by
  constructor<;>intro h<;>omega
 simp only[e]
theorem up_end (ls:List Int) (s:Nat):upP ls 16 0 s=wordP ls s:=by
 unfold upP wordP
 have e:(1≤ls.getD s 0∧(ls.getD s 0<((16:Nat):Int)∨ls.getD s 0=((16:Nat):Int)∧s<0))↔(1≤ls.getD s 0∧ls.getD s 0≤15):=by
  constructor<;>intro h<;>omega
 simp only[e]
theorem up_no (ls:List Int) (m k:Nat) (h:ls.getD k 0≠(m:Int)) (s:Nat):upP ls m (k+1) s=upP ls m k s:=by
 unfold upP
 have e:(1≤ls.getD s 0∧(ls.getD s 0<(m:Int)∨ls.getD s 0=(m:Int)∧s<k+1))↔(1≤ls.getD s 0∧(ls.getD s 0<(m:Int)∨ls.getD s 0=(m:Int)∧s<k)):=by
  constructor
  ·rintro⟨h1,h2|⟨h2,h3⟩⟩
   ·exact⟨h1,.inl h2⟩
   ·refine⟨h1,.inr ⟨h2,?_⟩⟩
    rcases Nat.lt_or_ge s k with h4|h4
    ·exact h4
    ·obtain rfl:s=k:=by omega
     exact absurd h2 h
  ·rintro⟨h1,h2|⟨h2,h3⟩⟩
   ·exact⟨h1,.inl h2⟩
   ·exact⟨h1,.inr ⟨h2,by omega⟩⟩
 simp only[e]
theorem up_yes (ls:List Int) (m k:Nat) (h:ls.getD k 0=(m:Int)) (hm:1≤m) (s:Nat):upP ls m (k+1) s=if s=k then(turnN m (nxP ls m+cntL (ls.take k) m),m) else upP ls m k s:=by
 by_cases hs:s=k
 ·subst hs
  rw[if_pos rfl]
  unfold upP codeP
  rw[h,if_pos ⟨by omega,.inr ⟨rfl,by omega⟩⟩]
  simp
 ·rw[if_neg hs]
  unfold upP
  have e:(1≤ls.getD s 0∧(ls.getD s 0<(m:Int)∨ls.getD s 0=(m:Int)∧s<k+1))↔(1≤ls.getD s 0∧(ls.getD s 0<(m:Int)∨ls.getD s 0=(m:Int)∧s<k)):=by
   constructor<;>rintro⟨h1,h2|⟨h2,h3⟩⟩
   ·exact⟨h1,.inl h2⟩
   ·exact⟨h1,.inr ⟨h2,by omega⟩⟩
   ·exact⟨h1,.inl h2⟩
   ·exact⟨h1,.inr ⟨h2,by omega⟩⟩
  simp only[e]
theorem cnt_take_yes (ls:List Int) (m k:Nat) (hk:k<ls.length) (h:ls.getD k 0=(m:Int)):cntL (ls.take (k+1)) m=cntL (ls.take k) m+1:=by
 unfold cntL
 rw[List.take_succ_eq_append_getElem hk,List.count_append]
 have e:ls[k]=(m:Int):=by
  rw[← h]
  simp[List.getD,List.getElem?_eq_getElem hk]
 simp[e]
theorem cnt_take_no (ls:List Int) (m k:Nat) (hk:k<ls.length) (h:ls.getD k 0≠(m:Int)):cntL (ls.take (k+1)) m=cntL (ls.take k) m:=by
 unfold cntL
 rw[List.take_succ_eq_append_getElem hk,List.count_append]
 have e:ls[k]≠(m:Int):=by
  rw[show ls[k]=ls.getD k 0 by simp[List.getD,List.getElem?_eq_getElem hk]]
  exact h
 simp[e]
theorem cnt_le (ls:List Int) (m k:Nat):cntL (ls.take k) m≤ls.length:=Nat.le_trans List.count_le_length (by rw[List.length_take];omega)
theorem nx_le (ls:List Int):∀ m,nxP ls m+2*ls.length≤2*ls.length*2 ^ m
 | 0=>by simp[nxP]
 | m+1=>by
  have h:=nx_le ls m
  have h2:cntL ls m≤ls.length:=List.count_le_length
  rw[nxP,Nat.pow_succ,← Nat.mul_assoc]
  split<;>omega
end Go.Proofs.YtgiogemkomgkhaaGreatDoor.Cn
namespace Go.Proofs.YtgiogemkomgkhaaGreatDoor.Mg
open Go.RowKit Go.Shelf Cn
def TableAt (w:World) (Wb n:Nat) (T:Nat→Nat×Nat):Prop:=∀ s,s<n→w.cell? ⟨Wb,s*2,none⟩=some (.int .u64 ((T s).1:Int))∧w.cell? ⟨Wb,s*2+1,none⟩=some (.int .i64 ((T s).2:Int))
theorem TableAt.congr {w:World} {Wb n:Nat} {T T':Nat→Nat×Nat} (h:TableAt w Wb n T) (e:∀ s,s<n→T s=T' s):TableAt w Wb n T':=fun s hs=>by rw[← e s hs];exact h s hs
theorem TableAt.heap {w w':World} {Wb n:Nat} {T:Nat→Nat×Nat} (h:TableAt w Wb n T) (e:w'.heap[Wb]?=w.heap[Wb]?):TableAt w' Wb n T:=fun s hs =>
 ⟨(World.cell?_of_block (a:=⟨Wb,s*2,none⟩) e).trans (h s hs).1,(World.cell?_of_block (a:=⟨Wb,s*2+1,none⟩) e).trans (h s hs).2⟩
theorem table_new {W:World} {Wb n:Nat} {ls:List Int} {T:TypeId} (h:W.heap[Wb]?=some (.cells (madeCells #[.int .u64 0,.int .i64 0] (n*2)) T)):TableAt W Wb n (upP ls 1 0):=fun s hs=>by
 rw[up_start]
 have hc:∀ k,W.cell? ⟨Wb,k,none⟩=(madeCells #[.int .u64 0,.int .i64 0] (n*2))[k]?:=fun k=>by
  simp only[World.cell?]
  rw[h]
  simp
 rw[hc,hc]
 unfold madeCells
 rw[Array.getElem?_map,Array.getElem?_map,Array.getElem?_eq_getElem (by simp;omega),Array.getElem?_eq_getElem (by simp;omega),Array.getElem_range,Array.getElem_range]
 have e1:s*2 % 2=0:=by omega
 have e2:(s*2+1) % 2=1:=by omega
 simp[e1,e2]
theorem TableAt.put {w:World} {Wb n:Nat} {T:Nat→Nat×Nat} (h:TableAt w Wb n T) (hc:∀ s,s<n→(∃ x,w.cell? ⟨Wb,s*2,none⟩=some x)∧(∃ x,w.cell? ⟨Wb,s*2+1,none⟩=some x)∧(∀ k,w.frozen? ⟨Wb,k,none⟩=false)∧Wb<w.heap.size) (k:Nat) (hk:k<n) (a b:Nat) :
  TableAt ((w.setCell ⟨Wb,k*2,none⟩ (.int .u64 (a:Int))).setCell ⟨Wb,k*2+1,none⟩ (.int .i64 (b:Int))) Wb n (fun s=>if s=k then(a,b) else T s):=fun s hs=>by
 by_cases e:s=k
 ·subst e
  obtain⟨⟨x,hx⟩,⟨y,hy⟩, -, -⟩:=hc s hs
  dsimp only
  rw[if_pos rfl]
  refine⟨?_,?_⟩
  ·rw[World.cell?_setCell_other _ _ _ _ (by intro e;simp at e)]
   exact World.cell?_setCell_same _ _ _ hx
  ·exact World.cell?_setCell_same _ _ _ ((World.cell?_setCell_other _ _ _ _ (by intro e;simp at e)).trans hy)
 ·dsimp only
  rw[if_neg e]
  refine⟨?_,?_⟩
  ·rw[World.cell?_setCell_other _ _ _ _ (by intro e;simp only[Addr.mk.injEq]at e;omega),World.cell?_setCell_other _ _ _ _ (by intro e;simp only[Addr.mk.injEq]at e;omega)]
   exact(h s hs).1
  ·rw[World.cell?_setCell_other _ _ _ _ (by intro e;simp only[Addr.mk.injEq]at e;omega),World.cell?_setCell_other _ _ _ _ (by intro e;simp only[Addr.mk.injEq]at e;omega)]
   exact(h s hs).2
theorem AsgAt.wheap {w0 w w3:World} {g Wb n N ms:Nat} {A:Option Addr} {c:Nat} {f:Nat→Int} {sv:Value} (h:AsgAt w0 w g Wb n N ms A c f sv) (hw:Wb<w.heap.size) (X:Obj) (hgr:(w.alloc X).grownBy w3 sv.ownBlock):w3.heap[Wb]?=w.heap[Wb]?:=by
 obtain⟨xs,hx⟩:=h.syms
 refine(hgr.block Wb (by simp;omega) (fun e=>?_)).trans (((Below.refl w.heap.size w).alloc (Nat.le_refl _) X).block Wb hw)
 have:=(hx.lt Wb e.symm).1
 omega
def preP (ls:List Int) (m:Nat):Nat:=nxP ls (m - 1)+if m - 1=0 then 0 else cntL ls (m - 1)
theorem nx_pre (ls:List Int) (m:Nat) (h:1≤m):nxP ls m=2*preP ls m:=by
 obtain⟨k,rfl⟩:∃ k,m=k+1:=⟨m - 1,by omega⟩
 rfl
theorem pre_next (ls:List Int) (m k:Nat) (h:1≤m) (hk:k=ls.length):nxP ls m+cntL (ls.take k) m=preP ls (m+1):=by
 unfold preP
 rw[hk,List.take_length,Nat.add_sub_cancel,if_neg (by omega)]
theorem nx_bound (ls:List Int) (m:Nat) (hm:m≤15) (hl:ls.length≤288):nxP ls m≤20000000:=by
 have h:=nx_le ls m
 have e:2 ^ m≤2 ^ 15:=Nat.pow_le_pow_right (by omega) hm
 have e2:(2:Nat) ^ 15=32768:=by decide
 have e3:2*ls.length*2 ^ m≤2*288*32768:=Nat.mul_le_mul (by omega) (by omega)
 omega
theorem code_bound (ls:List Int) (m k:Nat) (hm:m≤15) (hl:ls.length≤288):nxP ls m+cntL (ls.take k) m≤100000000:=by
 have h:=nx_bound ls m hm hl
 have h2:=cnt_le ls m k
 omega
theorem turn_step (x y:Nat) (hx:x≤1000000000) (hy:y<4294967296):Go.bits .or .u64 (IntKind.u64.wrap ((y:Int)*2)) (Go.bits .and .u64 (x:Int) 1)=((y*2+x % 2:Nat):Int):=by
 have h1:Go.bits .and .u64 (x:Int) 1=((x % 2:Nat):Int):=by
  have e:Go.bits .and .u64 (x:Int) 1=IntKind.u64.wrap ((BitVec.ofInt 64 (x:Int) &&& BitVec.ofInt 64 1).toNat:Int):=rfl
  rw[e,BitVec.toNat_and]
  have b1:(BitVec.ofInt 64 (x:Int)).toNat=x:=by simp only[BitVec.toNat_ofInt];omega
  have b2:(BitVec.ofInt 64 1).toNat=2 ^ 1 - 1:=by decide
  rw[b1,b2,Nat.and_two_pow_sub_one_eq_mod,IntKind.wrap_u64]
  omega
 have h2:IntKind.u64.wrap ((y:Int)*2)=((y*2:Nat):Int):=by rw[IntKind.wrap_u64];omega
 rw[h1,h2]
 have e:Go.bits .or .u64 ((y*2:Nat):Int) ((x % 2:Nat):Int)=IntKind.u64.wrap ((BitVec.ofInt 64 ((y*2:Nat):Int) ||| BitVec.ofInt 64 ((x % 2:Nat):Int)).toNat:Int):=rfl
 rw[e,BitVec.toNat_or]
 have b1:(BitVec.ofInt 64 ((y*2:Nat):Int)).toNat=y*2:=by simp only[BitVec.toNat_ofInt];omega
 have b2:(BitVec.ofInt 64 ((x % 2:Nat):Int)).toNat=x % 2:=by simp only[BitVec.toNat_ofInt];omega
 have hor:y*2 ||| x % 2=y*2+x % 2:=by
  have:=Nat.two_pow_add_eq_or_of_lt (i:=1) (b:=x % 2) (by omega) y
  rw[Nat.mul_comm y 2]
  exact this.symm
 rw[b1,b2,hor,IntKind.wrap_u64]
 omega
set_option maxHeartbeats 4000000 in
theorem turnedx_calls (v n:Nat) (w:World) (hn:n≤32) (hv:v≤1000000000):Calls Tryz.prog 154 #[.int .u64 v,.int .i64 n] w fun e w'=>e= .returned (.int .u64 (turnN n v:Nat))∧w'=w:=by
 have HB:=Lib.hid (turnN_lt n v)
 go_enter Tryz.func154,Tryz.ntmps154
 go_wp2
 go_loop [0,5,7] (fun a o i=>∃ (x y k:Nat),a= .int .u64 (x:Int)∧o= .int .u64 (y:Int)∧i= .int .i64 k∧k≤n∧x≤1000000000∧y<2 ^ k∧turnGo (n - k) y x=turnN n v) (fun _ _ i=>n - (intOf i).toNat)
 case atStart=>exact⟨v,0,0,rfl,rfl,rfl,Nat.zero_le _,hv,by decide,rfl⟩
 case round =>
  obtain⟨x,y,k,rfl,rfl,rfl,hk,hx,hy,he⟩:=hrel
  have HY:=Lib.hid hy
  have HE:=Lib.hid he
  clear hy he
  by_cases hlt:k<n
  ·have q1:decide ((k:Int)<(n:Int))=true:=decide_eq_true (by omega)
   go_wp2
   go_round
   case rel =>
    have hp:2 ^ k≤2 ^ 32:=Nat.pow_le_pow_right (by omega) (by omega)
    have c32:(2:Nat) ^ 32=4294967296:=by decide
    have hy:=HY.out
    refine⟨x/2,y*2+x % 2,k+1,by congr 1,by rw[turn_step x y hx (by omega)],by go_num,by omega,by omega,by rw[Nat.pow_succ];omega,?_⟩
    rw[← HE.out,show n - k=(n - (k+1))+1 by omega]
    rfl
   case measure=>simp[intOf];omega
  ·obtain rfl:k=n:=by omega
   have q1:decide ((k:Int)<(k:Int))=false:=decide_eq_false (by omega)
   go_wp2
   go_ret
   have h:=HE.out
   rw[Nat.sub_self]at h
   exact⟨by rw[← h];rfl,rfl⟩
set_option maxHeartbeats 8000000 in
set_option maxRecDepth 100000 in
theorem assignx_calls (g:Nat) (A:Option Addr) (c:Nat) (ls:List Int) (wv:Value) (f:Nat→Int) (w:World) (hC:CodeAt w g (.slice A ls.length c) wv (.slice none 0 0) f) (hR:ReadsOff w g A ls) (hl:ls.length≤288) (hx:∀ x∈ls,0≤x∧x≤15) :
  Calls Tryz.prog 136 #[.pointer (some ⟨g,0,none⟩)] w fun e w'=>∃ v sv,e= .returned v∧w.grownBy w' (some g)∧CodeAt w' g (.slice A ls.length c) (.slice (some ⟨w.heap.size,0,none⟩) ls.length ls.length) sv f∧TableAt w' w.heap.size ls.length (wordP ls)∧(∃ cur,w'.heap[w.heap.size]?=some (.cells cur 229 (0,0))):=by
 have HC:=Lib.hid hC
 have HR:=Lib.hid hR
 obtain⟨n,hn⟩:∃ n,ls.length=n:=⟨_,rfl⟩
 rw[hn]at HC hl
 have HN:=Lib.hid hn
 obtain⟨c0,c1,c18,_,cfr,cg⟩:=HC.out.cell
 have fr1:=cfr 1
 obtain⟨i0,hi,hz0,hz1,hz2⟩:=info_parts info_word
 have hmk:∀ W:World,(Instr.makeSlice 208 (.int .i64 n) (.int .i64 n)).run Tryz.prog W= .ok (.slice (some ⟨W.heap.size,0,none⟩) n n) (W.alloc (.cells (madeCells #[.int .u64 0,.int .i64 0] (n*2)) 229)):=fun W=>by
  have:=run_make (P:=Tryz.prog) W 208 229 i0 (.agg #[.int .u64 0,.int .i64 0]) Tryz.underlying208 hi hz0 .i64 .i64 n n (by omega) (by omega) (by rw[hz2];omega) (by omega)
  simpa[hz1,Value.cells] using this
 clear hC hR hn cfr hi hz0 hz1 hz2
 have hii:Tryz.prog.info? 3=some ti:=by kernel_rfl
 have hiz0:ti.zero=some (.int .i64 0):=by kernel_rfl
 have hiz1:ti.size=1:=by kernel_rfl
 have hiz2:ti.bytes=8:=by kernel_rfl
 go_enter Tryz.func136,Tryz.ntmps136
 have hwl:(w.setCell ⟨g,1,none⟩ (.slice (some ⟨w.heap.size,0,none⟩) n n)).heap.size=w.heap.size:=by simp[World.setCell]
 have H0:Hid (AsgAt w ((w.setCell ⟨g,1,none⟩ (.slice (some ⟨w.heap.size,0,none⟩) n n)).alloc (.cells (madeCells #[.int .u64 0,.int .i64 0] (n*2)) 229)) g w.heap.size n 0 0 A c f (.slice none 0 0)):=Lib.hid {
  code:=(HC.out.words _).below ((Below.refl _ _).alloc (Nat.le_refl _) _)
  words:=⟨_,by have h:=heap_new (w.setCell ⟨g,1,none⟩ (.slice (some ⟨w.heap.size,0,none⟩) n n)) (.cells (madeCells #[.int .u64 0,.int .i64 0] (n*2)) 229);rw[hwl]at h;exact h,by rw[size_madeCells];omega⟩
  syms:=⟨[],World.ownsRow_nil _ _ _ _⟩
  small:=Nat.le_refl _
  grown:=(grown_set w g 1 _).trans (World.grownBy_alloc _ _ _) }
 have T0:Hid (TableAt ((w.setCell ⟨g,1,none⟩ (.slice (some ⟨w.heap.size,0,none⟩) n n)).alloc (.cells (madeCells #[.int .u64 0,.int .i64 0] (n*2)) 229)) w.heap.size n (upP ls 1 0)):=Lib.hid (by
  have h:=heap_new (w.setCell ⟨g,1,none⟩ (.slice (some ⟨w.heap.size,0,none⟩) n n)) (.cells (madeCells #[.int .u64 0,.int .i64 0] (n*2)) 229)
  rw[hwl]at h
  exact table_new h)
 clear hwl
 go_wp2
 go_loopw [2,3] (fun nx i wr=>∃ (m ms:Nat) (sv:Value),nx= .int .u64 (preP ls m:Nat)∧1≤m∧m≤16∧i= .int .i64 m∧AsgAt w wr g w.heap.size n ((m - 1)*288) ms A c f sv∧TableAt wr w.heap.size n (upP ls m 0)) (fun _ i _=>17 - (intOf i).toNat)
 case atStart=>exact⟨1,0,_,rfl,Nat.le_refl _,by omega,rfl,H0.out,T0.out⟩
 case round =>
  obtain⟨m,ms,sv,rfl,hm1,hm2,rfl,hA,hT⟩:=hrel
  have HA:=Lib.hid hA
  have HT:=Lib.hid hT
  clear hA hT
  by_cases hlt:m<16
  ·have q1:decide ((m:Int)≤15)=true:=decide_eq_true (by omega)
   have d0:=HA.out.code.cell.1
   go_wp2
   go_loopw [2,26] (fun nx i wr=>∃ (k ms:Nat) (sv:Value),nx= .int .u64 ((nxP ls m+cntL (ls.take k) m:Nat))∧k≤n∧i= .int .i64 k∧AsgAt w wr g w.heap.size n ((m - 1)*288+k) ms A c f sv∧TableAt wr w.heap.size n (upP ls m k)) (fun _ i _=>n - (intOf i).toNat)
   case atStart=>exact⟨0,ms,sv,by
    have hb:=nx_bound ls m (by omega) (by have:=HN.out;omega)
    have hp:=nx_pre ls m hm1
    have e0:cntL (List.take 0 ls) m=0:=rfl
    rw[e0,hp,IntKind.wrap_u64]
    congr 1
    omega,Nat.zero_le _,rfl,HA.out,HT.out⟩
   case round =>
    obtain⟨k,ms,sv,rfl,hk,rfl,hA,hT⟩:=hrel
    have HA2:=Lib.hid hA
    have HT2:=Lib.hid hT
    clear hA d0 hT
    by_cases hkl:k<n
    ·have q2:decide ((k:Int)<(n:Int))=true:=decide_eq_true (by omega)
     have k1:k<ls.length:=by rw[HN.out];exact hkl
     obtain⟨gl,ol,rfl,hne,hlw,hcell⟩:=HR.out.grown HA2.out.grown k k1
     obtain⟨y,hy⟩:∃ y,ls[k]=y:=⟨_,rfl⟩
     rw[hy]at hcell
     have HY:Hid (ls.getD k 0=y):=Lib.hid (by rw[← hy];simp[List.getD,List.getElem?_eq_getElem k1])
     clear hy
     obtain⟨d0,d1,d18,_,dfr,dg⟩:=HA2.out.code.cell
     cases h0:(y ==(m:Int)) with
     | false =>
      go_wp2
      go_roundw
      case rel =>
       have hno:ls.getD k 0≠(m:Int):=by rw[HY.out];exact beq_eq_false_iff_ne.1 h0
       exact⟨k+1,ms,sv,by rw[cnt_take_no ls m k k1 hno],by omega,by go_num,{ HA2.out with small:=Nat.le_trans HA2.out.small (by omega) },HT2.out.congr (fun s _=>(up_no ls m k hno s).symm)⟩
      case measure=>simp[intOf];omega
     | true =>
      obtain⟨⟨x1,hx1⟩,⟨x2,hx2⟩,hxf,hxl⟩:=HA2.out.wcell k hkl
      have xf1:=hxf (k*2)
      have xf2:=hxf (k*2+1)
      have f0:(0:Int)≤(k:Int):=by omega
      have f1:(k:Int)<(n:Int):=by omega
      have hm64:m≤32:=by omega
      have hyes:ls.getD k 0=(m:Int):=by rw[HY.out];exact beq_iff_eq.1 h0
      have HYS:=Lib.hid hyes
      obtain⟨X,hX⟩:∃ X:Nat,X=nxP ls m+cntL (ls.take k) m:=⟨_,rfl⟩
      have hXb:X≤100000000:=by rw[hX];exact code_bound ls m k (by omega) (by have:=HN.out;omega)
      have HXE:=Lib.hid hX
      rw[← hX]
      have HTN:=Lib.hid (fun W:World=>turnedx_calls X m W hm64 (by omega))
      clear hyes hX
      have hgne:g≠w.heap.size:=Nat.ne_of_lt cg
      clear hxf dfr
      go_wp2_with fail
      go_region_held3 (fun wx=>wx.cell? ⟨g,1,none⟩=some (.slice (some ⟨w.heap.size,0,none⟩) n n)) (first|exact d1|exact(cell_set2 wr g w.heap.size (k*2) (k*2+1) 1 _ _ hgne).trans d1) (first|(go_at_call 154;refine(HTN.out _).mono ?_;rintro e w' ⟨rfl,rfl⟩))
      generalize hwd:World.setCell _ _ _=wd
      have HA3:Hid (AsgAt w wd g w.heap.size n ((m - 1)*288+k) ms (some ⟨gl,ol,none⟩) c f sv):=Lib.hid (by
       rw[← hwd]
       exact HA2.out.put cg (Nat.le_refl _) _ _ _ _)
      have HT3:Hid (TableAt wd w.heap.size n (upP ls m (k+1))):=Lib.hid (by
       rw[← hwd]
       refine(HT2.out.put HA2.out.wcell k hkl (turnN m X) m).congr (fun s _=>?_)
       rw[up_yes ls m k HYS.out (by omega),HXE.out])
      clear hwd d0 d1 d18 hx1 hx2 xf1 xf2 hcell
      obtain⟨d0,d1,d18,_,dfr,dg⟩:=HA3.out.code.cell
      obtain⟨xs,hown⟩:=HA3.out.syms
      have hsm:=HA3.out.small
      have hws:w.heap.size<wd.heap.size:=(HA3.out.wcell k hkl).2.2.2
      clear dfr
      go_wp2_with (at_builtin;refine wpList_append_own _ rfl _ _ 55 rfl (w.heap.size+1) 3 ti (.int .i64 0) 1 8 Tryz.underlying55 hii hiz0 hiz1 hiz2 rfl (by decide) _ _ _ rfl (hown.alloc _) ⟨wd.heap.size,0,none⟩ 1 1 [.int .i64 k] rfl rfl ?c1 ?c2 ?c3 ?c4 ?c5 ?_)
      case c1=>exact cell_one_new _ _ _
      case c2=>simp[Value.oneCell']
      case c3=>unfold maxLen;omega
      case c4=>omega
      case c5=>simp;omega
      intro v' w3 hown1 hg1 _
      obtain⟨gv,cv,rfl,_,_⟩:=hown1.form (by omega)
      have hg2:(wd.alloc (.cells #[.int .i64 k] 3)).grownBy w3 sv.ownBlock:=⟨hg1.os,hg1.tape,hg1.output,hg1.size,hg1.block⟩
      have HC3:=HA3.out.appCode cg _ hg2
      obtain⟨_,_,e18,_,efr,eg⟩:=HC3.cell
      have efr18:=efr 18
      have HA4:=Lib.hid (HA3.out.app cg (Nat.le_refl _) _ hg2 hown1)
      have HT4:Hid (TableAt w3 w.heap.size n (upP ls m (k+1))):=Lib.hid (HT3.out.heap (HA3.out.wheap hws _ hg2))
      clear d0 d1 d18 hown hown1 hg1 hg2 HC3 efr
      go_wp2
      go_roundw
      case rel =>
       refine⟨k+1,ms+1,_,?_,by omega,by go_num,HA4.out,HT4.out.heap (heap_setCell_other _ _ _ _ (Ne.symm hgne))⟩
       rw[cnt_take_yes ls m k k1 HYS.out,← Nat.add_assoc,← HXE.out]
       rw[Int.natCast_add]
       rfl
      case measure=>simp[intOf];omega
    ·have hkn:k=n:=by omega
     have q2:decide ((k:Int)<(n:Int))=false:=decide_eq_false (by omega)
     have HA3:Hid (AsgAt w wr g w.heap.size n ((m+1 - 1)*288) ms A c f sv):=Lib.hid { HA2.out with small:=Nat.le_trans HA2.out.small (by omega) }
     have HT3:Hid (TableAt wr w.heap.size n (upP ls (m+1) 0)):=Lib.hid (HT2.out.congr (fun s hs=>by
      have e:k=ls.length:=by rw[HN.out];exact hkn
      rw[e]
      exact up_next ls m s (by omega)))
     have HP:Hid (nxP ls m+cntL (ls.take k) m=preP ls (m+1)):=Lib.hid (pre_next ls m k hm1 (by rw[HN.out];exact hkn))
     clear hkn
     go_wp2
     go_roundw
     case rel=>exact⟨m+1,ms,sv,by rw[HP.out],by omega,by omega,by go_num,HA3.out,HT3.out⟩
     case measure=>simp[intOf];omega
  ·obtain rfl:m=16:=by omega
   go_wp2
   exact bodyPost_end (v:= .tuple #[]) (results_none (by kernel_rfl) _ _ _) rfl ⟨_,sv,rfl,HA.out.grown,by rw[HN.out];exact HA.out.code,by rw[HN.out];exact HT.out.congr (fun s _=>up_end ls s),HA.out.words.imp (fun _ h=>h.1)⟩
end Go.Proofs.YtgiogemkomgkhaaGreatDoor.Mg
namespace Go.Proofs.YtgiogemkomgkhaaGreatDoor.Mg
open Go.RowKit Go.Shelf Cn
structure CanonAt (w:World) (b g:Nat) (ls:List Int):Prop where
 ex:∃ (gl cap Wb:Nat) (sv:Value) (f:Nat→Int),CodeAt w g (.slice (some ⟨gl,0,none⟩) ls.length cap) (.slice (some ⟨Wb,0,none⟩) ls.length ls.length) sv f∧(∃ cur,w.heap[gl]?=some (.cells cur 3 (0,0)))∧(∃ cur,w.heap[Wb]?=some (.cells cur 229 (0,0))) ∧
  (∀ j (h:j<ls.length),w.cell? ⟨gl,j,none⟩=some (.int .i64 ls[j]))∧TableAt w Wb ls.length (wordP ls)∧b≤g∧b≤gl∧b≤Wb∧ls.length≤cap
theorem canon_made {w0 w2 w3 w4:World} {g gl cap:Nat} {ls:List Int} {f:Nat→Int} {sv:Value} (hge:w0.heap.size≤gl∧gl≠g∧gl<w2.heap.size∧w0.heap.size≤w2.heap.size∧g<w2.heap.size) (hgB:w0.heap.size≤g) (hgr:w2.grownBy w4 (some g)) (hs:w2.heap.size≤w3.heap.size)
  (hl:∃ cur,w2.heap[gl]?=some (.cells cur 3 (0,0))) (hr:ReadsOff w2 g (some ⟨gl,0,none⟩) ls) (hc:CodeAt w4 g (.slice (some ⟨gl,0,none⟩) ls.length cap) (.slice (some ⟨w3.heap.size,0,none⟩) ls.length ls.length) sv f) (ht:TableAt w4 w3.heap.size ls.length (wordP ls)) (hcap:ls.length≤cap) (hwt:∃ cur,w4.heap[w3.heap.size]?=some (.cells cur 229 (0,0))):CanonAt w4 w0.heap.size g ls:=by
 obtain⟨h1,h2,h3,h4,h5⟩:=hge
 have e:=hgr.block gl h3 (fun e=>h2 (by cases e;rfl))
 refine⟨gl,cap,w3.heap.size,sv,f,hc,?_,?_,fun j hj=>?_,ht,hgB,h1,by omega,hcap⟩
 ·obtain⟨cur,h⟩:=hl
  exact⟨cur,e.trans h⟩
 ·exact hwt
 ·obtain⟨g',o',e',hne,hlt,hcell⟩:=hr j hj
  cases e'
  rw[Nat.zero_add]at hcell
  exact(World.cell?_of_block (a:=⟨gl,j,none⟩) e).trans hcell
def RdI (w:World) (B o:Nat) (ls:List Int):Prop:=∀ j (h:j<ls.length),w.cell? ⟨B,o+j,none⟩=some (.int .i64 ls[j])
theorem clonex_calls (B o n c:Nat) (ls:List Int) (w:World) (hn:ls.length=n) (hl:n≤288) (hr:RdI w B o ls) :
  Calls Tryz.prog 133 #[.slice (some ⟨B,o,none⟩) n c] w fun e w'=>∃ g cap,e= .returned (.slice (some ⟨g,0,none⟩) n cap)∧w.heap.size≤g∧g<w'.heap.size∧Reads w' (some ⟨g,0,none⟩) ls∧(∃ cur,w'.heap[g]?=some (.cells cur 3 (0,0)))∧n≤cap∧Below w.heap.size w w':=by
 refine(Tryz.slices_Clone_int B o n c ls w (by omega) (by omega) (fun j hj=>?_)).mono ?_
 ·rw[getD_get ls j hj]
  exact hr j hj
 ·rintro e w' ⟨v,rfl,hown,hne,hb⟩
  obtain⟨hl2,⟨rfl,_⟩|⟨g,cap,cur,rfl,hg,hh,hnc,hcm,hsz,htk⟩⟩:=hown
  ·exact absurd rfl hne
  refine⟨g,cap,rfl,hg,(Array.getElem?_eq_some_iff.1 hh).1,fun j hj=>⟨g,0,rfl,?_⟩,⟨cur,hh⟩,hnc,hb⟩
  have h2:(cur.toList.take (n*1))[j]?=some (.int .i64 ls[j]):=by
   rw[htk,List.getElem?_map,List.getElem?_take,if_pos (by omega),List.getElem?_eq_getElem hj]
   rfl
  rw[List.getElem?_take,if_pos (by omega)]at h2
  simp only[World.cell?]
  rw[hh]
  simpa using h2
set_option maxHeartbeats 1000000 in
set_option maxRecDepth 100000 in
theorem newx_calls (B o n c:Nat) (ls:List Int) (loose:Bool) (w:World) (hn:ls.length=n) (hl:n≤288) (hr:RdI w B o ls) (hx:∀ x∈ls,0≤x∧x≤15) (hpos:∀ n,n≤15→0≤leftP (cntF ls) n) (hok:codeOk ls loose) :
  Calls Tryz.prog 112 #[.slice (some ⟨B,o,none⟩) n c,.bool loose] w fun e w'=>∃ g,e= .returned (.tuple #[.pointer (some ⟨g,0,none⟩),.int .i64 0])∧CanonAt w' w.heap.size g ls∧Below w.heap.size w w':=by
 have t1:decide (288<(n:Int))=false:=decide_eq_false (by omega)
 have HCF:Hid (∀ W:World,RdI W B o ls→Calls Tryz.prog 132 #[.slice (some ⟨B,o,none⟩) n c,.func (.func 131) #[] #[]] W fun e w'=>e= .returned (.bool false)∧w'=W):=Lib.hid (fun W hW=>by
  have h:=contains2_calls (some ⟨B,o,none⟩) c ls W (fun j hj=>⟨B,o,rfl,hW j hj⟩) (by omega) hx
  rw[hn]at h
  exact h)
 have HCL:=Lib.hid (clonex_calls B o n c ls w hn hl hr)
 have HR:=Lib.hid hr
 have HX:=Lib.hid hx
 have HPOS:=Lib.hid hpos
 have HOK:=Lib.hid hok
 have HN:=Lib.hid hn
 clear hr hx hpos hok hn
 go_enter Tryz.func112,Tryz.ntmps112
 go_upto_region 4 with(first|(go_at_call 132;refine(HCF.out _ HR.out).mono ?_;rintro e w' ⟨rfl,rfl⟩))
 go_upto_region 5 with(first|(go_at_call 133;refine HCL.out.mono ?_;rintro e w1 ⟨gl,cap,rfl,hgl,hgs,hrd,htl,hcap,hb1⟩))
 obtain⟨w2,hw2⟩:∃ w2,w2=w1.alloc (.cells #[.slice (some ⟨gl,0,none⟩) n cap,.slice none 0 0,.int .i64 0,.int .i64 0,.int .i64 0,.int .i64 0,.int .i64 0,.int .i64 0,.int .i64 0,.int .i64 0,.int .i64 0,.int .i64 0,.int .i64 0,.int .i64 0,.int .i64 0,.int .i64 0,.int .i64 0,.int .i64 0,.slice none 0 0] 211):=⟨_,rfl⟩
 have hB2:Below w'.heap.size w' w2:=by rw[hw2];exact hb1.alloc hb1.size _
 have hC2:CodeAt w2 w1.heap.size (.slice (some ⟨gl,0,none⟩) ls.length cap) (.slice none 0 0) (.slice none 0 0) (fun _=>0):=by rw[hw2,HN.out];exact code_new w1 _
 have hR2:ReadsOff w2 w1.heap.size (some ⟨gl,0,none⟩) ls:=fun j hj=>by
  obtain⟨g',o',e,hc⟩:=hrd j hj
  cases e
  refine⟨gl,0,rfl,Nat.ne_of_lt hgs,?_,?_⟩
  ·rw[hw2];exact Nat.lt_of_lt_of_le hgs (by simp)
  ·rw[hw2];exact(((Below.refl _ _).alloc (Nat.le_refl _) _).cell (World.block_lt_of_cell? w1 _ hc)).trans hc
 obtain⟨g,hg⟩:∃ g,w1.heap.size=g:=⟨_,rfl⟩
 have hgB:w'.heap.size≤g:=by rw[← hg];exact hb1.size
 rw[hg]at hC2 hR2
 rw[← hw2,hg]
 have HFL:=Lib.hid (fill_calls g (some ⟨gl,0,none⟩) cap ls _ _ w2 hC2 hR2 (by rw[HN.out];exact hl) HX.out HPOS.out)
 have HR2:=Lib.hid hR2
 have HB2:=Lib.hid hB2
 have HBD:Hid (∀ m,0≤cntF ls m∧cntF ls m≤288):=Lib.hid (fun m=>by have:=cntF_bound ls m;have:=HN.out;omega)
 have HG:=Lib.hid hg
 have HL2:Hid (∃ cur,w2.heap[gl]?=some (.cells cur 3 (0,0))):=Lib.hid (by
  obtain⟨cur,h⟩:=htl
  exact⟨cur,by rw[hw2];exact(((Below.refl w1.heap.size w1).alloc (Nat.le_refl _) _).block gl hgs).trans h⟩)
 have HGE:Hid (w'.heap.size≤gl∧gl≠g∧gl<w2.heap.size∧w'.heap.size≤w2.heap.size∧g<w2.heap.size):=Lib.hid ⟨hgl,by omega,by rw[hw2];exact Nat.lt_of_lt_of_le hgs (by simp),hB2.size,by rw[hw2,← hg];simp⟩
 clear hw2 hC2 hR2 hB2 hrd hb1 hg htl
 go_upto_region 6 with(first|(go_at_call 134;refine HFL.out.mono ?_;rintro e w3 ⟨rfl,hg3,hC3⟩))
 have hL15:=HPOS.out 15 (Nat.le_refl _)
 have HG3:=Lib.hid hg3
 have HC3:=Lib.hid hC3
 have HR3:=Lib.hid (HR2.out.grown hg3)
 have HAS:=Lib.hid (assignx_calls g (some ⟨gl,0,none⟩) cap ls _ (cntF ls) w3 hC3 HR3.out (by rw[HN.out];exact hl) HX.out)
 have HSL:=Lib.hid (slack_calls g _ _ _ (cntF ls) w3 hC3 HBD.out)
 clear hg3 hC3
 rcases HOK.out with h0|⟨h0,hlo,hs⟩
 ·obtain⟨L,hL⟩:∃ L,leftP (cntF ls) 15=L:=⟨_,rfl⟩
  rw[hL]at h0 hL15 ⊢
  subst h0
  clear hL
  go_wp2_with (first|(go_at_call 136;refine HAS.out.mono ?_;rintro e w4 ⟨v4,sv4,rfl,hg4,hc4,ht4,hwt4⟩))
  go_ret2
  refine⟨_,rfl,?_,HB2.out.grown (HG3.out.trans hg4) HB2.out.size (fun r e=>by cases e;exact hgB)⟩
  exact canon_made HGE.out hgB (HG3.out.trans hg4) HG3.out.size HL2.out HR2.out hc4 ht4 (by rw[HN.out];exact hcap) hwt4
 ·obtain⟨L,hL⟩:∃ L,leftP (cntF ls) 15=L:=⟨_,rfl⟩
  rw[hL]at h0 hL15 ⊢
  subst hlo
  have t2:decide (L<0)=false:=decide_eq_false (by omega)
  have t3:decide (0<L)=true:=decide_eq_true h0
  have HS2:Hid (slackP (cntF ls)=true):=Lib.hid hs
  unfold slackP at hs
  rw[hs]at HSL
  clear hL h0 hL15 hs
  go_wp2_with (first|(go_at_call 135;refine HSL.out.mono ?_;rintro e w4 ⟨rfl,rfl⟩)|(go_at_call 136;refine HAS.out.mono ?_;rintro e w4 ⟨v4,sv4,rfl,hg4,hc4,ht4,hwt4⟩))
  go_ret2
  refine⟨_,rfl,?_,HB2.out.grown (HG3.out.trans hg4) HB2.out.size (fun r e=>by cases e;exact hgB)⟩
  exact canon_made HGE.out hgB (HG3.out.trans hg4) HG3.out.size HL2.out HR2.out hc4 ht4 (by rw[HN.out];exact hcap) hwt4
end Go.Proofs.YtgiogemkomgkhaaGreatDoor.Mg
namespace Go.Proofs.YtgiogemkomgkhaaGreatDoor.Mg
open Go.RowKit Go.Shelf Cn Bw
def wordB (ls:List Int) (s:Nat):List Bool:=bitsN (wordP ls s).2 (wordP ls s).1
theorem word_lt (ls:List Int) (s:Nat):(wordP ls s).2≤15∧(wordP ls s).1<32768:=by
 unfold wordP
 split
 ·rename_i h
  have h1:=turnN_lt (ls.getD s 0).toNat (codeP ls s)
  have h2:2 ^ (ls.getD s 0).toNat≤2 ^ 15:=Nat.pow_le_pow_right (by omega) (by omega)
  have h3:(2:Nat) ^ 15=32768:=by decide
  refine⟨?_,?_⟩
  ·show(ls.getD s 0).toNat≤15
   omega
  ·show turnN _ _<32768
   omega
 ·exact⟨by decide,by decide⟩
theorem heap_drewN (w:World) (q:Nat):(w.drewN q).heap=w.heap:=by
 induction q with
 | zero=>rfl
 | succ q ih=>rw[← World.drew_drewN];exact ih
theorem CanonAt.heap {w w':World} {b g:Nat} {ls:List Int} (h:CanonAt w b g ls) (hk:∀ k,b≤k→k<w.heap.size→(∃ cs T fr,w.heap[k]?=some (.cells cs T fr)∧(T=211∨T=3∨T=229))→w'.heap[k]?=w.heap[k]?):CanonAt w' b g ls:=by
 obtain⟨gl,cap,Wb,sv,f,hc,⟨cur,hl⟩,⟨cur2,hw⟩,hr,ht,h1,h2,h3,h4⟩:=h.ex
 have lt:∀ {k:Nat} {o:Obj},w.heap[k]?=some o→k<w.heap.size:=fun h=>(Array.getElem?_eq_some_iff.1 h).1
 have eg:w'.heap[g]?=w.heap[g]?:=by
  obtain⟨cs,hcs, -⟩:=hc
  exact hk g h1 (lt hcs) ⟨_,_,_,hcs,.inl rfl⟩
 have el:w'.heap[gl]?=w.heap[gl]?:=hk gl h2 (lt hl) ⟨_,_,_,hl,.inr (.inl rfl)⟩
 have ew:w'.heap[Wb]?=w.heap[Wb]?:=hk Wb h3 (lt hw) ⟨_,_,_,hw,.inr (.inr rfl)⟩
 exact⟨gl,cap,Wb,sv,f,hc.heap eg,⟨cur,el.trans hl⟩,⟨cur2,ew.trans hw⟩,fun j hj=>(World.cell?_of_block (a:=⟨gl,j,none⟩) el).trans (hr j hj),ht.heap ew,h1,h2,h3,h4⟩
theorem CanonAt.below {w w':World} {b g:Nat} {ls:List Int} (h:CanonAt w b g ls) (hb:Below w.heap.size w w'):CanonAt w' b g ls:=h.heap (fun k _ hk _=>hb.block k hk)
theorem CanonAt.drewN {w:World} {b g:Nat} {ls:List Int} (h:CanonAt w b g ls) (q:Nat):CanonAt (w.drewN q) b g ls:=h.heap (fun k _ _ _=>by rw[heap_drewN])
theorem CanonAt.wrote {w w':World} {b g base B o:Nat} {ls:List Int} {v v':Value} {bs:List Bool} (h:CanonAt w b g ls) (hw:WAt w base B o v bs) (hB:B<b) (ht:Wrote B o v w v' w'):CanonAt w' b g ls:=h.heap (fun k hk hl ⟨cs,T,fr,hc,hT⟩=>by
 refine ht.block k hl (by omega) (fun e=>?_)
 obtain⟨dn,acc,n,hr, -⟩:=hw
 rcases hr.row.2 with⟨rfl, -⟩|⟨g2,cap,cur,rfl, -,hg2, -⟩
 ·cases e
 ·simp only[Value.ownBlock,Option.some.injEq]at e
  subst e
  rw[hg2]at hc
  simp only[Option.some.injEq,Obj.cells.injEq]at hc
  obtain⟨-,rfl, -⟩:=hc
  rcases hT with h|h|h<;>exact absurd h (by decide))
set_option maxHeartbeats 1000000 in
set_option maxRecDepth 100000 in
theorem word_calls (b g s:Nat) (ls:List Int) (w:World) (h:CanonAt w b g ls) (hs:s<ls.length) (hl:ls.length≤288) :
  Calls Tryz.prog 137 #[.pointer (some ⟨g,0,none⟩),.int .i64 s] w fun e w'=>e= .returned (.tuple #[.int .u64 ((wordP ls s).1:Int),.int .i64 ((wordP ls s).2:Int)])∧∃ q,w'=w.drewN q:=by
 obtain⟨gl,cap,Wb,sv,f,hc, -, -,hr,ht, -⟩:=h.ex
 obtain⟨x0,x1,x18, -⟩:=hc.cell
 obtain⟨t1,t2⟩:=ht s hs
 clear hc ht hr h x0 x18
 generalize (wordP ls s).1=a at *
 generalize (wordP ls s).2=c at *
 generalize ls.length=n at *
 have p1:decide ((s:Int)<0)=false:=decide_eq_false (by omega)
 have p2:decide ((n:Int)≤(s:Int))=false:=decide_eq_false (by omega)
 have p3:(0:Int)≤(s:Int):=by omega
 have p4:(s:Int)<(n:Int):=by omega
 go_enter Tryz.func137,Tryz.ntmps137
 go_wp2
 go_quiet (fail)
 go_wp2
 go_ret2
 exact⟨rfl,_,rfl⟩
set_option maxHeartbeats 1000000 in
set_option maxRecDepth 100000 in
theorem codewrite_calls (b g s base B o:Nat) (v:Value) (bs:List Bool) (ls:List Int) (w:World) (h:CanonAt w b g ls) (hw:WAt w base B o v bs) (hs:s<ls.length) (hl:ls.length≤288) (hd:bs.length≤1000000000000) :
  Calls Tryz.prog 113 #[.pointer (some ⟨g,0,none⟩),.pointer (some ⟨B,o,none⟩),.int .i64 s] w fun e w'=>e= .returned (.tuple #[])∧∃ v',WAt w' base B o v' (bs++wordB ls s)∧Wrote B o v w v' w':=by
 have HW:=Lib.hid (word_calls b g s ls w h hs hl)
 have hlt:=word_lt ls s
 have HR:=Lib.hid (fun (q:Nat)=>write_any base B o v bs (wordP ls s).1 (wordP ls s).2 (w.drewN q) (hw.drewN q) (by omega) (by omega) hd)
 have HB:Hid (wordB ls s=bitsN (wordP ls s).2 (wordP ls s).1):=Lib.hid rfl
 generalize (wordP ls s).1=a at *
 generalize (wordP ls s).2=c at *
 go_enter Tryz.func113,Tryz.ntmps113
 go_wp2_with fail
 refine HW.out.mono ?_
 rintro e w1 ⟨rfl,q,rfl⟩
 go_wp2_with fail
 refine(HR.out q).mono ?_
 rintro e w2 ⟨rfl,v2,r1,r2⟩
 have F1:=Lib.hid r1
 have F2:=Lib.hid (((Wrote.refl B o v w).drewN q).trans r2)
 clear r1 r2
 go_wp2
 go_end0
 exact⟨rfl,v2,by rw[HB.out];exact F1.out,F2.out⟩
end Go.Proofs.YtgiogemkomgkhaaGreatDoor.Mg
