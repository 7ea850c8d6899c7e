/-
  Tokens as cells of a row.
-/
import Derived.Test.YtgiogemkomgkhaaGreatDoorKRf
import Derived.Test.YtgiogemkomgkhaaGreatDoorKBkW
import Derived.Maps.Views
import Derived.Maps.OwnOps
import Derived.BigQuiet
import Derived.Deep.QuietTactic
import Derived.StillTailTactics
import Derived.WalkArith
set_option linter.unusedVariables false
set_option linter.unusedSimpArgs false
namespace Go.Proofs.YtgiogemkomgkhaaGreatDoor.Mt
open Go.RowKit Go.Shelf Mg Bw Bk Cn Zp Rf
def andB (m x:Int):Int:=Go.bits .and .i64 x m
theorem andB_range (m:Nat) (hm:m<2 ^ 62) (x:Int):0≤andB (m:Int) x∧andB (m:Int) x≤m:=by
 have h:((BitVec.ofInt 64 x &&& BitVec.ofInt 64 (m:Int)).toNat)≤m:=by
  rw[BitVec.toNat_and]
  refine Nat.le_trans Nat.and_le_right ?_
  rw[BitVec.toNat_ofInt]
  have:((m:Int) % ((2 ^ 64:Nat):Int)).toNat=m:=by
   rw[Int.emod_eq_of_lt (by omega) (by omega)]
   omega
  rw[this]
  exact Nat.le_refl _
 have e:andB (m:Int) x=IntKind.i64.wrap ((BitVec.ofInt 64 x &&& BitVec.ofInt 64 (m:Int)).toNat:Int):=rfl
 rw[e,IntKind.wrap_i64]
 omega
def lenGo (t:List Nat) (k i:Nat):Nat→Nat→Nat
 | 0,n=>n
 | m+1,n=>if t.getD (k+n) 0=t.getD (i+n) 0 then lenGo t k i m (n+1) else n
def lenP (t:List Nat) (k i:Nat):Nat:=lenGo t k i (min 258 (t.length - i)) 0
theorem lenGo_bd (t:List Nat) (k i:Nat):∀ m n,n≤lenGo t k i m n∧lenGo t k i m n≤n+m∧∀ j,n≤j→j<lenGo t k i m n→t.getD (k+j) 0=t.getD (i+j) 0
 | 0,n=>⟨Nat.le_refl _,Nat.le_refl _,fun j h1 h2=>by simp only[lenGo]at h2;omega⟩
 | m+1,n=>by
  rw[lenGo]
  split
  ·rename_i h
   obtain⟨h1,h2,h3⟩:=lenGo_bd t k i m (n+1)
   refine⟨by omega,by omega,fun j h4 h5=>?_⟩
   by_cases hj:j=n
   ·rw[hj];exact h
   ·exact h3 j (by omega) h5
  ·exact⟨Nat.le_refl _,by omega,fun j h4 h5=>by omega⟩
theorem lenP_bd (t:List Nat) (k i:Nat):lenP t k i≤258∧lenP t k i≤t.length - i∧∀ j,j<lenP t k i→t.getD (k+j) 0=t.getD (i+j) 0:=by
 obtain⟨h1,h2,h3⟩:=lenGo_bd t k i (min 258 (t.length - i)) 0
 unfold lenP
 exact⟨by omega,by omega,fun j h=>h3 j (Nat.zero_le _) h⟩
def bN (b got:Nat):Nat:=if b<got then got else b
def bD (b got d x:Nat):Nat:=if b<got then x else d
def longGo (t pv:List Nat) (i:Nat):Nat→Nat→Nat→Nat→Nat×Nat
 | 0,_,b,d=>(b,d)
 | m+1,k,b,d =>
  if k=0∨32768<i - (k - 1) then(b,d)
  else if bN b (lenP t (k - 1) i)=258 then(bN b (lenP t (k - 1) i),bD b (lenP t (k - 1) i) d (i - (k - 1)))
  else longGo t pv i m (pv.getD (k - 1) 0) (bN b (lenP t (k - 1) i)) (bD b (lenP t (k - 1) i) d (i - (k - 1)))
def longP (t pv:List Nat) (H:Int→Nat) (hs:Nat→Int) (depth i:Nat):Nat×Nat :=
 if t.length<i+3 then(0,0)
 else if (longGo t pv i depth (H (hs i)) 0 0).1<3 then(0,0) else longGo t pv i depth (H (hs i)) 0 0
def matchOk (t:List Nat) (i n d:Nat):Prop:=n≤258∧(0<n→1≤d∧d≤i∧d≤32768∧i+n≤t.length∧∀ j,j<n→t.getD (i - d+j) 0=t.getD (i+j) 0)
theorem longGo_ok (t pv:List Nat) (i:Nat) (hp:∀ j,pv.getD j 0≤j):∀ m k b d,k≤i→matchOk t i b d→matchOk t i (longGo t pv i m k b d).1 (longGo t pv i m k b d).2
 | 0,k,b,d,hk,h=>by rw[longGo];exact h
 | m+1,k,b,d,hk,h=>by
  rw[longGo]
  split
  ·exact h
  ·rename_i hc
   have hl:=lenP_bd t (k - 1) i
   have h2:matchOk t i (bN b (lenP t (k - 1) i)) (bD b (lenP t (k - 1) i) d (i - (k - 1))):=by
    unfold bN bD
    split
    ·refine⟨hl.1,fun h0=>⟨by omega,by omega,by omega,by omega,fun j hj=>?_⟩⟩
     rw[show i - (i - (k - 1))=k - 1 by omega]
     exact hl.2.2 j hj
    ·exact h
   split
   ·exact h2
   ·refine longGo_ok t pv i hp m _ _ _ ?_ h2
    have:=hp (k - 1)
    omega
def Ahead (H:Int→Nat) (pv:List Nat) (m:Nat):Prop:=(∀ k,H k≤m)∧∀ j,pv.getD j 0≤j
theorem longP_ok {t pv:List Nat} {H:Int→Nat} {hs:Nat→Int} {depth i:Nat} (h:Ahead H pv i):matchOk t i (longP t pv H hs depth i).1 (longP t pv H hs depth i).2∧((longP t pv H hs depth i).1=0∨3≤(longP t pv H hs depth i).1):=by
 unfold longP
 split
 ·exact⟨⟨by simp,fun h0=>absurd h0 (by simp)⟩,.inl rfl⟩
 ·split
  ·exact⟨⟨by simp,fun h0=>absurd h0 (by simp)⟩,.inl rfl⟩
  ·exact⟨longGo_ok t pv i h.2 depth _ 0 0 (h.1 _) ⟨by omega,fun h0=>absurd h0 (by omega)⟩,.inr (by omega)⟩
def entH (t:List Nat) (hs:Nat→Int) (H:Int→Nat) (i:Nat):Int→Nat:=if t.length<i+3 then H else fun k=>if k=hs i then i+1 else H k
def entP (t:List Nat) (hs:Nat→Int) (H:Int→Nat) (pv:List Nat) (i:Nat):List Nat:=if t.length<i+3 then pv else pv.set i (H (hs i))
theorem ahead_ent {t:List Nat} {hs:Nat→Int} {H:Int→Nat} {pv:List Nat} {i:Nat} (h:Ahead H pv i):Ahead (entH t hs H i) (entP t hs H pv i) (i+1):=by
 unfold entH entP
 split
 ·exact⟨fun k=>Nat.le_succ_of_le (h.1 k),h.2⟩
 ·refine⟨fun k=>?_,fun j=>?_⟩
  ·show(if k=hs i then i+1 else H k)≤i+1
   split
   ·exact Nat.le_refl _
   ·exact Nat.le_succ_of_le (h.1 k)
  ·rw[List.getD_eq_getElem?_getD,List.getElem?_set]
   split
   ·rename_i e
    subst e
    split
    ·exact h.1 _
    ·exact Nat.zero_le _
   ·have:=h.2 j
    rw[List.getD_eq_getElem?_getD]at this
    exact this
def entHn (t:List Nat) (hs:Nat→Int) (H:Int→Nat) (pv:List Nat) (i:Nat):Nat→(Int→Nat)×List Nat
 | 0=>(H,pv)
 | n+1=>(entH t hs (entHn t hs H pv i n).1 (i+n),entP t hs (entHn t hs H pv i n).1 (entHn t hs H pv i n).2 (i+n))
theorem ahead_entn {t:List Nat} {hs:Nat→Int} {H:Int→Nat} {pv:List Nat} {i:Nat} (h:Ahead H pv i):∀ n,Ahead (entHn t hs H pv i n).1 (entHn t hs H pv i n).2 (i+n)
 | 0=>h
 | n+1=>ahead_ent (ahead_entn h n)
def takeP (t pv:List Nat) (H:Int→Nat) (hs:Nat→Int) (depth i:Nat) (lazy:Bool):Nat :=
 if 0<(longP t pv H hs depth i).1∧lazy=true∧(longP t pv H hs depth i).1<258∧(longP t pv H hs depth i).1<(longP t (entP t hs H pv i) (entH t hs H i) hs depth (i+1)).1 then 0 else(longP t pv H hs depth i).1
def tokGo (t:List Nat) (hs:Nat→Int) (depth:Nat) (lazy:Bool):Nat→Nat→(Int→Nat)→List Nat→List Tok
 | 0,_,_,_=> []
 | m+1,i,H,pv =>
  if t.length≤i then []
  else if takeP t pv H hs depth i lazy=0 then⟨(t.getD i 0:Nat),0,0⟩::tokGo t hs depth lazy m (i+1) (entH t hs H i) (entP t hs H pv i)
  else⟨0,(takeP t pv H hs depth i lazy:Nat),((longP t pv H hs depth i).2:Nat)⟩::tokGo t hs depth lazy m (i+takeP t pv H hs depth i lazy) (entHn t hs H pv i (takeP t pv H hs depth i lazy)).1 (entHn t hs H pv i (takeP t pv H hs depth i lazy)).2
theorem take_ok {t pv:List Nat} {H:Int→Nat} {hs:Nat→Int} {depth i:Nat} {lazy:Bool} (h:Ahead H pv i) (h0:takeP t pv H hs depth i lazy≠0) :
  takeP t pv H hs depth i lazy=(longP t pv H hs depth i).1∧3≤takeP t pv H hs depth i lazy:=by
 have:=longP_ok (t:=t) (hs:=hs) (depth:=depth) h
 unfold takeP at h0 ⊢
 split at h0
 ·exact absurd rfl h0
 ·rename_i hc
  rw[if_neg hc]
  exact⟨rfl,by omega⟩
def intsN (l:List Nat):List Int:=l.map fun x:Nat=>(x:Int)
theorem intsN_len (l:List Nat):(intsN l).length=l.length:=List.length_map _
theorem intsN_getD (l:List Nat) (i:Nat):(intsN l).getD i 0=((l.getD i 0:Nat):Int):=by
 unfold intsN
 rw[List.getD_eq_getElem?_getD,List.getElem?_map,List.getD_eq_getElem?_getD]
 cases l[i]?<;>rfl
theorem copy_match {t:List Nat} {i n d:Nat} (h:matchOk t i n d) (h0:0<n):∀ m,m≤n→copyT d (intsN (t.take i)) m=intsN (t.take (i+m))
 | 0,_=>rfl
 | m+1,hm=>by
  obtain⟨h1,h2,h3,h4,h5⟩:=h.2 h0
  rw[copyT,copy_match h h0 m (by omega),intsN_len,List.length_take,Nat.min_eq_left (by omega),intsN_getD]
  have e1:(t.take (i+m)).getD (i+m - d) 0=t.getD (i+m) 0:=by
   have:=h5 m (by omega)
   rw[show i - d+m=i+m - d by omega]at this
   rw[List.getD_eq_getElem?_getD,List.getElem?_take,if_pos (by omega),← List.getD_eq_getElem?_getD,this]
  rw[e1,show i+(m+1)=i+m+1 by omega,List.take_succ_eq_append_getElem (by omega)]
  unfold intsN
  rw[List.map_append]
  congr 1
  rw[List.getD_eq_getElem?_getD,List.getElem?_eq_getElem (by omega)]
  rfl
theorem tokGo_ok (t:List Nat) (hs:Nat→Int) (depth:Nat) (lazy:Bool) (hb:∀ x∈t,x<256):∀ m i (H:Int→Nat) (pv:List Nat),Ahead H pv i→i≤t.length→t.length≤i+m →
  expTs (intsN (t.take i)) (tokGo t hs depth lazy m i H pv)=intsN t∧fitTs (intsN (t.take i)) (tokGo t hs depth lazy m i H pv)∧(∀ x∈tokGo t hs depth lazy m i H pv,tokIn x∧goodT x=true∧0≤x.b∧x.b<256)∧(tokGo t hs depth lazy m i H pv).length≤t.length - i
 | 0,i,H,pv,ha,hi,hm=>by
  rw[tokGo]
  refine⟨?_,trivial,fun x hx=>(by cases hx),Nat.zero_le _⟩
  show intsN (t.take i)=_
  rw[List.take_of_length_le (by omega)]
 | m+1,i,H,pv,ha,hi,hm=>by
  rw[tokGo]
  split
  ·rename_i hle
   refine⟨?_,trivial,fun x hx=>(by cases hx),Nat.zero_le _⟩
   show intsN (t.take i)=_
   rw[List.take_of_length_le hle]
  ·rename_i hlt
   have hit:i<t.length:=by omega
   split
   ·obtain⟨h1,h2,h3,h4⟩:=tokGo_ok t hs depth lazy hb m (i+1) _ _ (ahead_ent (t:=t) (hs:=hs) ha) (by omega) (by omega)
    have hg:t.getD i 0=t[i]:=by rw[List.getD_eq_getElem?_getD,List.getElem?_eq_getElem hit];rfl
    have hx:expT (intsN (t.take i)) ⟨(t.getD i 0:Nat),0,0⟩=intsN (t.take (i+1)):=by
     unfold expT
     rw[if_pos rfl,List.take_succ_eq_append_getElem hit,hg]
     unfold intsN
     rw[List.map_append]
     rfl
    have hbt:t.getD i 0<256:=by rw[hg];exact hb _ (List.getElem_mem _)
    refine⟨?_,⟨.inl rfl,?_⟩,fun x hx2=>?_,by rw[List.length_cons];omega⟩
    ·rw[expTs_cons,hx]
     exact h1
    ·rw[hx]
     exact h2
    ·rcases List.mem_cons.1 hx2 with rfl|hx2
     ·exact⟨.inl ⟨rfl,Int.natCast_nonneg _,by show((t.getD i 0:Nat):Int)<256;omega⟩,by simp[goodT],Int.natCast_nonneg _,by show((t.getD i 0:Nat):Int)<256;omega⟩
     ·exact h3 x hx2
   ·rename_i h0
    obtain⟨hn,hn3⟩:=take_ok ha h0
    have hok:=(longP_ok (t:=t) (hs:=hs) (depth:=depth) ha).1
    rw[← hn]at hok
    obtain⟨k1,k2,k3,k4,k5⟩:=hok.2 (by omega)
    generalize (longP t pv H hs depth i).2=d at *
    generalize takeP t pv H hs depth i lazy=n at *
    have hn258:=hok.1
    obtain⟨h1,h2,h3,h4⟩:=tokGo_ok t hs depth lazy hb m (i+n) _ _ (ahead_entn (t:=t) (hs:=hs) ha n) (by omega) (by omega)
    have hx:expT (intsN (t.take i)) ⟨0,(n:Nat),(d:Nat)⟩=intsN (t.take (i+n)):=by
     unfold expT
     rw[if_neg (by simp only;omega)]
     exact copy_match hok (by omega) n (Nat.le_refl _)
    refine⟨?_,⟨.inr ?_,?_⟩,fun x hx2=>?_,by rw[List.length_cons];omega⟩
    ·rw[expTs_cons,hx]
     exact h1
    ·rw[intsN_len,List.length_take]
     simp only
     omega
    ·rw[hx]
     exact h2
    ·rcases List.mem_cons.1 hx2 with rfl|hx2
     ·refine⟨.inr ⟨by simp only;omega,by simp only;omega,by simp only;omega,by simp only;omega⟩,?_,by simp,by simp⟩
      unfold goodT
      rw[if_neg (by simp only;omega)]
      have q1:decide ((3:Int)≤(n:Int))=true:=decide_eq_true (by omega)
      have q2:decide ((n:Int)≤258)=true:=decide_eq_true (by omega)
      have q3:decide ((1:Int)≤(d:Int))=true:=decide_eq_true (by omega)
      have q4:decide ((d:Int)≤32768)=true:=decide_eq_true (by omega)
      simp only[q1,q2,q3,q4]
      rfl
     ·exact h3 x hx2
end Go.Proofs.YtgiogemkomgkhaaGreatDoor.Mt
namespace Go.Proofs.YtgiogemkomgkhaaGreatDoor.Mt
open Go.RowKit Go.Shelf Mg Bw Bk Cn Zp Rf
open Go.Maps (IsMap Keyed)
def OwnInt (w:World) (b n:Nat) (H:Int→Nat):Prop :=
 ∃ D:DataW Unit,w.ownsMap Tryz.prog 3 (plainElem Tryz.prog 3) b n D∧IsMap D∧∀ k:Int,D.atKey (.int .i64 k) (.lit (.int .i64 0))= .lit (.int .i64 (H k:Nat))
structure FinAt (w:World) (f b g n at' depth:Nat) (t:ByteArray) (H:Int→Nat) (pv:List Nat):Prop where
 blk:w.heap[f]?=some (.cells #[.string t,.int .i64 at',.map (some b),.slice (some ⟨g,0,none⟩) t.size t.size,.int .i64 depth] 174 (0,0))
 map:OwnInt w b n H
 row:RowI w g (intsN pv)
 len:pv.length=t.size
 ne:f≠g
theorem keyedInt:Keyed Tryz.prog 3:=Go.Maps.int_keyed Tryz.underlying3
theorem zeroInt (w:World):(zeroValue 3).run Tryz.prog w= .ok (.int .i64 0) w:=by kernel_rfl
theorem wf64 {x:Int} (h: -9223372036854775808≤x∧x≤9223372036854775807):(Lit.int .i64 x).wf=true:=WalkArith.wf_i64 h
theorem OwnInt.heap {w w':World} {b n:Nat} {H:Int→Nat} (h:OwnInt w b n H) (hb:w'.heap[b]?=w.heap[b]?):OwnInt w' b n H:=by
 obtain⟨D,⟨es,clock,hm,F,hs,hD⟩,h2,h3⟩:=h
 exact⟨D,⟨es,clock,hb.trans hm,F,hs,hD⟩,h2,h3⟩
theorem OwnInt.obj {w:World} {b n:Nat} {H:Int→Nat} (h:OwnInt w b n H):∃ es clock,w.heap[b]?=some (.map es clock):=by
 obtain⟨D,⟨es,clock,hm,F,hs,hD⟩,h2,h3⟩:=h
 exact⟨es,clock,hm⟩
theorem OwnInt.mono {w:World} {b n m:Nat} {H:Int→Nat} (h:OwnInt w b n H) (hn:n≤m):OwnInt w b m H:=by
 obtain⟨D,h1,h2,h3⟩:=h
 exact⟨D,h1.mono hn,h2,h3⟩
theorem OwnInt.made (w:World):OwnInt (w.alloc (.map #[] 0)) w.heap.size 0 (fun _=>0) :=
 ⟨.map [],World.ownsMap_made _ _ _ _,⟨[],rfl⟩,fun k=>by simp[DataW.atKey]⟩
theorem OwnInt.look {w:World} {b n:Nat} {H:Int→Nat} (h:OwnInt w b n H) (k:Int) (hk:(Lit.int .i64 k).wf=true) :
  (Instr.lookup 172 (.map (some b)) (.int .i64 k) false).run Tryz.prog w= .ok (.int .i64 (H k:Nat)) w:=by
 obtain⟨D,h1,h2,h3⟩:=h
 obtain⟨c,hrun,hat, -⟩:=h1.lookup_int keyedInt Tryz.underlying172 Tryz.underlying3 (zeroInt w) (Go.Maps.keyOf_int_mk Tryz.underlying3 hk)
 rw[h3 k]at hat
 simp only[DataW.lit.injEq,Lit.int.injEq,true_and]at hat
 rw[hrun,hat]
theorem OwnInt.store {w:World} {b n:Nat} {H:Int→Nat} (h:OwnInt w b n H) (k:Int) (v:Nat) (hk:(Lit.int .i64 k).wf=true) (hv:(Lit.int .i64 (v:Int)).wf=true) (hn:n<maxLen) :
  ∃ w',(Instr.mapUpdate 172 (.map (some b)) (.int .i64 k) (.int .i64 (v:Int))).run Tryz.prog w= .ok () w'∧OwnInt w' b (n+1) (fun j=>if j=k then v else H j)∧w.grownBy w' (some b):=by
 obtain⟨D,h1,h2,h3⟩:=h
 obtain⟨w',hrun,ho,hg⟩:=h1.update keyedInt Tryz.underlying172 hn (Go.Maps.keyOf_int_mk Tryz.underlying3 hk) (Go.plainElem_int Tryz.underlying3 hv)
 refine⟨w',hrun,⟨_,ho,h2.put _ _,fun j=>?_⟩,hg⟩
 by_cases hj:j=k
 ·subst hj
  rw[Go.Maps.atKey_put_same h2 (by simp[Go.WideAt.IsKeyLit])]
  show _=DataW.lit (.int .i64 ((if j=j then v else H j:Nat):Int))
  rw[if_pos rfl]
 ·rw[Go.Maps.atKey_put_other (by simpa using hj),h3 j]
  show _=DataW.lit (.int .i64 ((if j=k then v else H j:Nat):Int))
  rw[if_neg hj]
structure Turn (p:Nat→Prop) (w w':World):Prop where
 os:w'.os=w.os
 tape:w'.tape=w.tape
 output:w'.output=w.output
 size:w.heap.size≤w'.heap.size
 block:∀ k,k<w.heap.size→¬ p k→w'.heap[k]?=w.heap[k]?
theorem Turn.refl (p:Nat→Prop) (w:World):Turn p w w:=⟨rfl,rfl,rfl,Nat.le_refl _,fun _ _ _=>rfl⟩
theorem Turn.trans {p:Nat→Prop} {a b c:World} (h:Turn p a b) (k:Turn p b c):Turn p a c :=
 ⟨k.os.trans h.os,k.tape.trans h.tape,k.output.trans h.output,Nat.le_trans h.size k.size,fun i hi hp=>(k.block i (Nat.lt_of_lt_of_le hi h.size) hp).trans (h.block i hi hp)⟩
theorem Turn.of_grown {p:Nat→Prop} {w w':World} {r:Option Nat} (h:w.grownBy w' r) (hp:∀ k,r=some k→p k):Turn p w w' :=
 ⟨h.os,h.tape,h.output,h.size,fun k hk hn=>h.block k hk (fun e=>hn (hp k e.symm))⟩
theorem Turn.of_below {p:Nat→Prop} {w w':World} (h:Below w.heap.size w w'):Turn p w w':=⟨h.os,h.tape,h.output,h.size,fun k hk _=>h.block k hk⟩
theorem Turn.drewN {p:Nat→Prop} (w:World) (q:Nat):Turn p w (w.drewN q):= .of_below (Go.below_drewN (Below.refl _ _) q)
theorem Turn.below {p:Nat→Prop} {w w':World} {base:Nat} (h:Turn p w w') (hp:∀ k,p k→base≤k) (hb:base≤w.heap.size):Below base w w':=by
 exact⟨h.os,h.tape,h.output,h.size,fun k hk=>h.block k (Nat.lt_of_lt_of_le hk hb) (fun e=>by have:=hp _ e;omega)⟩
theorem Turn.own {p:Nat→Prop} {w w':World} {base T size n:Nat} {v:Value} {xs:List Value} (h:Turn p w w') (ho:w.ownsRow base T size v n xs) (hp:∀ k,v.ownBlock=some k→¬ p k):w'.ownsRow base T size v n xs:=by
 refine⟨ho.1,?_⟩
 rcases ho.2 with hn|⟨g,cap,cur,rfl,hb,hgg,rest⟩
 ·exact .inl hn
 ·exact .inr ⟨g,cap,cur,rfl,hb,(h.block g (Array.getElem?_eq_some_iff.1 hgg).1 (hp g rfl)).trans hgg,rest⟩
def hash3 (a b c:Int):Int:=Go.bits .and .i64 (Go.bits .xor .i64 (Go.bits .xor .i64 (wrap64 (wrap64 a*1024)) (wrap64 (wrap64 b*32))) (wrap64 c)) 32767
def hashV (t:List Nat) (i:Nat):Int:=hash3 (t.getD i 0:Nat) (t.getD (i+1) 0:Nat) (t.getD (i+2) 0:Nat)
theorem hashV_range (t:List Nat) (i:Nat):0≤hashV t i∧hashV t i≤32767:=andB_range 32767 (by omega) _
theorem strN_getD (t:ByteArray) (i:Nat) (h:i<t.size):(strN t).getD i 0=t[i].toNat:=by
 rw[List.getD_eq_getElem?_getD,List.getElem?_eq_getElem (by rw[strN_len];exact h),← strN_get t i h]
 rfl
theorem FinAt.heap {w w':World} {f b g n at' depth:Nat} {t:ByteArray} {H:Int→Nat} {pv:List Nat} (h:FinAt w f b g n at' depth t H pv) (hb:∀ k,k=f∨k=b∨k=g→w'.heap[k]?=w.heap[k]?):FinAt w' f b g n at' depth t H pv :=
 ⟨(hb f (.inl rfl)).trans h.blk,h.map.heap (hb b (.inr (.inl rfl))),(hb g (.inr (.inr rfl))).trans h.row,h.len,h.ne⟩
theorem heap_drewN' (w:World) (q:Nat):(w.drewN q).heap=w.heap:=by
 induction q generalizing w with
 | zero=>rfl
 | succ q ih=>rw[← World.drew_drewN];exact ih w
theorem FinAt.drewN {w:World} {f b g n at' depth:Nat} {t:ByteArray} {H:Int→Nat} {pv:List Nat} (h:FinAt w f b g n at' depth t H pv) (q:Nat):FinAt (w.drewN q) f b g n at' depth t H pv:=h.heap (fun k _=>by rw[heap_drewN'])
theorem FinAt.below {w w':World} {f b g n at' depth:Nat} {t:ByteArray} {H:Int→Nat} {pv:List Nat} (h:FinAt w f b g n at' depth t H pv) (hb:Below w.heap.size w w'):FinAt w' f b g n at' depth t H pv:=h.heap (fun k hk=>by
 rcases hk with rfl|rfl|rfl
 ·exact hb.block _ (Array.getElem?_eq_some_iff.1 h.blk).1
 ·obtain⟨es,cl,hm⟩:=h.map.obj
  exact hb.block _ (Array.getElem?_eq_some_iff.1 hm).1
 ·exact hb.block _ (Array.getElem?_eq_some_iff.1 h.row).1)
set_option maxHeartbeats 1000000 in
set_option maxRecDepth 100000 in
theorem hash_calls (f b g n at' depth i:Nat) (t:ByteArray) (H:Int→Nat) (pv:List Nat) (w:World) (hF:FinAt w f b g n at' depth t H pv) (hi:i+3≤t.size) (ht:t.size≤1000000) :
  Calls Tryz.prog 128 #[.pointer (some ⟨f,0,none⟩),.int .i64 i] w fun e w'=>e= .returned (.int .i64 (hashV (strN t) i))∧∃ q,w'=w.drewN q:=by
 obtain⟨c0,f0⟩:=cell_at hF.blk 0 _ rfl
 have i0:(0:Int)≤(i:Int):=by omega
 have i1:i<t.size:=by omega
 have i2:i+1<t.size:=by omega
 have i3:i+2<t.size:=by omega
 have HV:Hid (hashV (strN t) i=hash3 (t[i].toNat:Int) (t[i+1].toNat:Int) (t[i+2].toNat:Int)):=Lib.hid (by
  unfold hashV
  rw[strN_getD t i i1,strN_getD t (i+1) i2,strN_getD t (i+2) i3])
 have w1':IntKind.i64.wrap ((i:Int)+1)=(i:Int)+1:=IntWalk.i64_in _ (by omega)
 have w2':IntKind.i64.wrap ((i:Int)+2)=(i:Int)+2:=IntWalk.i64_in _ (by omega)
 have w3':((i:Int)+1).toNat=i+1:=by omega
 have w4':((i:Int)+2).toNat=i+2:=by omega
 have w5':(0:Int)≤(i:Int)+1:=by omega
 have w6':(0:Int)≤(i:Int)+2:=by omega
 have w7':(i:Int)<(t.size:Int):=by omega
 have w8':(i:Int)+1<(t.size:Int):=by omega
 have w9':(i:Int)+2<(t.size:Int):=by omega
 clear hF
 go_enter Tryz.func128,Tryz.ntmps128
 go_wp2_with fail
 go_quiet (fail)
 go_wp2
 go_ret
 exact⟨by rw[HV.out];rfl,_,rfl⟩
set_option maxHeartbeats 1000000 in
set_option maxRecDepth 100000 in
theorem enter_calls (f b g n at' depth i:Nat) (t:ByteArray) (H:Int→Nat) (pv:List Nat) (w:World) (hF:FinAt w f b g n at' depth t H pv) (hi:i<t.size) (ht:t.size≤1000000) (hn:n≤10000000) :
  Calls Tryz.prog 106 #[.pointer (some ⟨f,0,none⟩),.int .i64 i] w fun e w'=>e= .returned (.tuple #[])∧FinAt w' f b g (n+1) at' depth t (entH (strN t) (hashV (strN t)) H i) (entP (strN t) (hashV (strN t)) H pv i)∧Turn (fun k=>k=b∨k=g) w w':=by
 obtain⟨c0,f0⟩:=cell_at hF.blk 0 _ rfl
 by_cases h3:t.size<i+3
 ·have HE:Hid (FinAt w f b g (n+1) at' depth t (entH (strN t) (hashV (strN t)) H i) (entP (strN t) (hashV (strN t)) H pv i)):=Lib.hid (by
   unfold entH entP
   rw[if_pos (by rw[strN_len];exact h3),if_pos (by rw[strN_len];exact h3)]
   exact⟨hF.blk,hF.map.mono (Nat.le_succ _),hF.row,hF.len,hF.ne⟩)
  have q1:decide ((t.size:Int)<(i:Int)+3)=true:=decide_eq_true (by omega)
  clear hF
  go_enter Tryz.func106,Tryz.ntmps106
  go_wp2
  exact bodyPost_ret (v:= .tuple #[]) (results_none (by kernel_rfl) _ _ _) rfl ⟨rfl,HE.out,Turn.refl _ _⟩
 ·have q1:decide ((t.size:Int)<(i:Int)+3)=false:=decide_eq_false (by omega)
  have HH:=Lib.hid (hash_calls f b g n at' depth i t H pv w hF (by omega) ht)
  have HF:=Lib.hid hF
  have hhr:=hashV_range (strN t) i
  have HEH:Hid (entH (strN t) (hashV (strN t)) H i=fun k=>if k=hashV (strN t) i then i+1 else H k):=Lib.hid (by unfold entH;rw[if_neg (by rw[strN_len];exact h3)])
  have HEP:Hid (entP (strN t) (hashV (strN t)) H pv i=pv.set i (H (hashV (strN t) i))):=Lib.hid (by unfold entP;rw[if_neg (by rw[strN_len];exact h3)])
  obtain⟨h,hh⟩:∃ h,hashV (strN t) i=h:=⟨_,rfl⟩
  rw[hh]at HH hhr HEH HEP
  clear hF hh
  go_enter Tryz.func106,Tryz.ntmps106
  go_wp2_with fail
  refine HH.out.mono ?_
  rintro e w2 ⟨rfl,q,hw2⟩
  have HF2:Hid (FinAt w2 f b g n at' depth t H pv):=Lib.hid (by rw[hw2];exact HF.out.drewN q)
  have HT2:Hid (Turn (fun k=>k=b∨k=g) w w2):=Lib.hid (by rw[hw2];exact Turn.drewN w q)
  clear hw2 c0 f0
  obtain⟨d2, -⟩:=cell_at HF2.out.blk 2 _ rfl
  obtain⟨d3, -⟩:=cell_at HF2.out.blk 3 _ rfl
  have hlk:(Instr.lookup 172 (.map (some b)) (.int .i64 h) false).run Tryz.prog w2.drew= .ok (.int .i64 (H h:Nat)) w2.drew:=(HF2.out.drewN 1).map.look h (wf64 (by omega))
  obtain⟨hv,hhv⟩:∃ hv,H h=hv:=⟨_,rfl⟩
  rw[hhv]at hlk HEP
  clear hhv
  have i0:(0:Int)≤(i:Int):=by omega
  have i1:(i:Int)<(t.size:Int):=by omega
  go_wp2_with fail
  go_still_tail 12,(by kernel_rfl)
  change wpList _ _ _ _ _ w2.drew
  clear d2 d3 hlk
  have HF3:Hid (FinAt w2.drew f b g n at' depth t H pv):=Lib.hid (HF2.out.drewN 1)
  have HT3:Hid (Turn (fun k=>k=b∨k=g) w w2.drew):=Lib.hid (HT2.out.trans (Turn.drewN w2 1))
  generalize w2.drew=w3 at *
  obtain⟨d2, -⟩:=cell_at HF3.out.blk 2 _ rfl
  obtain⟨d3, -⟩:=cell_at HF3.out.blk 3 _ rfl
  obtain⟨y0,r1,r2⟩:∃ y,w3.cell? ⟨g,i,none⟩=some y∧w3.frozen? ⟨g,i,none⟩=false:=⟨_,HF3.out.row.cell i (by rw[intsN_len,HF3.out.len];exact hi)⟩
  have HF4:Hid (FinAt (w3.setCell ⟨g,i,none⟩ (.int .i64 (hv:Nat))) f b g n at' depth t H (pv.set i hv)):=Lib.hid (by
   have hbk:∀ k,k≠g→(w3.setCell ⟨g,i,none⟩ (.int .i64 (hv:Nat))).heap[k]?=w3.heap[k]?:=fun k hk=>by
    exact Below.heap_setCell w3 ⟨g,i,none⟩ _ k hk
   have hbg:b≠g:=fun e=>by
    obtain⟨es,cl,hm⟩:=HF3.out.map.obj
    have hr:=HF3.out.row
    unfold RowI at hr
    rw[← e,hm]at hr
    cases hr
   refine⟨(hbk f HF3.out.ne).trans HF3.out.blk,HF3.out.map.heap (hbk b hbg),?_,by rw[List.length_set];exact HF3.out.len,HF3.out.ne⟩
   have:=HF3.out.row.set i ((hv:Nat):Int)
   have e:intsN (pv.set i hv)=(intsN pv).set i ((hv:Nat):Int):=by unfold intsN;rw[List.map_set]
   rw[e]
   exact this)
  have HT4:Hid (Turn (fun k=>k=b∨k=g) w (w3.setCell ⟨g,i,none⟩ (.int .i64 (hv:Nat)))):=Lib.hid (HT3.out.trans (Turn.of_grown (Mg.grown_set w3 g i (.int .i64 (hv:Nat))) (fun k e=> .inr (Option.some.inj e).symm)))
  clear HF3 HT3 HF2 HT2 HF
  go_upto_region 3 with fail
  obtain⟨w4,hw4⟩:∃ w4,w3.setCell ⟨g,i,none⟩ (.int .i64 (hv:Nat))=w4:=⟨_,rfl⟩
  rw[hw4]at HF4 HT4 ⊢
  clear hw4 r1 r2 d2 d3
  obtain⟨e2, -⟩:=cell_at HF4.out.blk 2 _ rfl
  obtain⟨w5,hrun,ho,hg⟩:=HF4.out.map.store h (i+1) (wf64 (by omega)) (wf64 (by omega)) (by unfold maxLen;omega)
  have ei:((i+1:Nat):Int)=(i:Int)+1:=by push_cast;rfl
  rw[ei]at hrun
  have HF5:Hid (FinAt w5 f b g (n+1) at' depth t (entH (strN t) (hashV (strN t)) H i) (entP (strN t) (hashV (strN t)) H pv i)):=Lib.hid (by
   rw[HEH.out,HEP.out]
   obtain⟨es,cl,hm⟩:=HF4.out.map.obj
   have hbk:∀ k,k<w4.heap.size→k≠b→w5.heap[k]?=w4.heap[k]?:=fun k hk hn=>hg.block k hk (fun e=>hn (Option.some.inj e))
   have hbf:f≠b:=fun e=>by have h1:=HF4.out.blk;rw[e,hm]at h1;cases h1
   have hbg:g≠b:=fun e=>by have h1:=HF4.out.row;unfold RowI at h1;rw[e,hm]at h1;cases h1
   exact⟨(hbk f (Array.getElem?_eq_some_iff.1 HF4.out.blk).1 hbf).trans HF4.out.blk,ho,(hbk g (Array.getElem?_eq_some_iff.1 HF4.out.row).1 hbg).trans HF4.out.row,HF4.out.len,HF4.out.ne⟩)
  have HT5:Hid (Turn (fun k=>k=b∨k=g) w w5):=Lib.hid (HT4.out.trans (Turn.of_grown hg (fun k e=> .inl (Option.some.inj e).symm)))
  clear ho hg ei
  go_wp2
  exact bodyPost_end (v:= .tuple #[]) (results_none (by kernel_rfl) _ _ _) rfl ⟨rfl,HF5.out,HT5.out⟩
end Go.Proofs.YtgiogemkomgkhaaGreatDoor.Mt
namespace Go.Proofs.YtgiogemkomgkhaaGreatDoor.Mt
open Go.RowKit Go.Shelf Mg Bw Bk Cn Zp Rf
set_option maxHeartbeats 2000000 in
set_option maxRecDepth 100000 in
theorem length_calls (f b g n at' depth k i:Nat) (t:ByteArray) (H:Int→Nat) (pv:List Nat) (w:World) (hF:FinAt w f b g n at' depth t H pv) (hk:k≤i) (hi:i≤t.size) (ht:t.size≤1000000) :
  Calls Tryz.prog 129 #[.pointer (some ⟨f,0,none⟩),.int .i64 k,.int .i64 i] w fun e w'=>e= .returned (.int .i64 (lenP (strN t) k i:Nat))∧∃ q,w'=w.drewN q:=by
 obtain⟨c0,f0⟩:=cell_at hF.blk 0 _ rfl
 obtain⟨R,hR⟩:∃ R,lenP (strN t) k i=R:=⟨_,rfl⟩
 obtain⟨r,hr⟩:∃ r,t.size - i=r:=⟨_,rfl⟩
 obtain⟨most,hm⟩:∃ most,min 258 r=most:=⟨_,rfl⟩
 have e1:(t.size:Int) - (i:Int)=(r:Int):=by omega
 have e2:min (258:Int) (r:Int)=(most:Int):=by omega
 have HR:Hid (lenGo (strN t) k i (most - 0) 0=R):=Lib.hid (by
  rw[← hR]
  unfold lenP
  rw[strN_len,hr,hm]
  rfl)
 have b1:i+most≤t.size:=by omega
 have HRR:=Lib.hid hR
 have HBL:=Lib.hid hF.blk
 rw[hR]
 clear hF hR hr hm
 go_enter Tryz.func129,Tryz.ntmps129
 go_wp2_with fail
 clear c0 f0 e1 e2
 go_loopw [8] (fun vn wr=>∃ n q:Nat,vn= .int .i64 n∧n≤most∧lenGo (strN t) k i (most - n) n=R∧wr=w.drewN q) (fun vn _=>most - (intOf vn).toNat)
 case atStart=>exact⟨0,0,rfl,Nat.zero_le _,HR.out,rfl⟩
 case round =>
  obtain⟨n,q,rfl,hn,hln,hq⟩:=hrel
  obtain⟨c0,f0⟩:=cell_at (w:=wr) (g:=f) (by rw[hq,heap_drewN'];exact HBL.out) 0 _ rfl
  have HL:=Lib.hid hln
  have HQ:=Lib.hid hq
  clear hln hq HR
  by_cases hlt:n<most
  ·have q1:decide ((n:Int)<(most:Int))=true:=decide_eq_true (by omega)
   have q1':decide (n<most)=true:=decide_eq_true hlt
   have j1:k+n<t.size:=by omega
   have j2:i+n<t.size:=by omega
   have w1':IntKind.i64.wrap ((k:Int)+(n:Int))=(k:Int)+(n:Int):=IntWalk.i64_in _ (by omega)
   have w2':IntKind.i64.wrap ((i:Int)+(n:Int))=(i:Int)+(n:Int):=IntWalk.i64_in _ (by omega)
   have w3':((k:Int)+(n:Int)).toNat=k+n:=by omega
   have w4':((i:Int)+(n:Int)).toNat=i+n:=by omega
   have w5':(0:Int)≤(k:Int)+(n:Int):=by omega
   have w6':(0:Int)≤(i:Int)+(n:Int):=by omega
   have w7':(k:Int)+(n:Int)<(t.size:Int):=by omega
   have w8':(i:Int)+(n:Int)<(t.size:Int):=by omega
   have g1:=strN_getD t (k+n) j1
   have g2:=strN_getD t (i+n) j2
   by_cases he:t[k+n].toNat=t[i+n].toNat
   ·have q2:((t[k+n].toNat:Int) ==(t[i+n].toNat:Int))=true:=by rw[he];exact beq_self_eq_true _
    have HN:Hid (lenGo (strN t) k i (most - (n+1)) (n+1)=R):=Lib.hid (by
     have h:=HL.out
     rw[show most - n=(most - (n+1))+1 by omega,lenGo,if_pos (by rw[g1,g2,he])]at h
     exact h)
    clear g1 g2 he
    go_wp2_with fail
    go_quiet (fail)
    generalize hW:World.drewN _ _=w3
    have HW:Hid (∃ q,w3=w.drewN q):=Lib.hid (by rw[← hW,HQ.out];exact⟨_,World.drewN_drewN ..⟩)
    clear hW
    go_wp2
    go_roundw
    case rel=>obtain⟨q2,h2⟩:=HW.out;exact⟨n+1,q2,by go_num,by omega,HN.out,h2⟩
    case measure=>simp[intOf];omega
   ·have q2:((t[k+n].toNat:Int) ==(t[i+n].toNat:Int))=false:=beq_eq_false_iff_ne.2 (by omega)
    have HN:Hid (n=R):=Lib.hid (by
     have h:=HL.out
     rw[show most - n=(most - (n+1))+1 by omega,lenGo,if_neg (by rw[g1,g2];exact he)]at h
     exact h)
    clear g1 g2 he
    go_wp2_with fail
    go_quiet (fail)
    generalize hW:World.drewN _ _=w3
    have HW:Hid (∃ q,w3=w.drewN q):=Lib.hid (by rw[← hW,HQ.out];exact⟨_,World.drewN_drewN ..⟩)
    clear hW
    go_wp2
    go_ret
    exact⟨by rw[← HN.out]<;>rfl,HW.out⟩
  ·have q1:decide ((n:Int)<(most:Int))=false:=decide_eq_false (by omega)
   have q1':decide (n<most)=false:=decide_eq_false hlt
   have HN:Hid (n=R):=Lib.hid (by
    have h:=HL.out
    rw[show most - n=0 by omega,lenGo]at h
    exact h)
   go_wp2_with fail
   go_quiet (fail)
   generalize hW:World.drewN _ _=w3
   have HW:Hid (∃ q,w3=w.drewN q):=Lib.hid (by rw[← hW,HQ.out];exact⟨_,World.drewN_drewN ..⟩)
   clear hW
   go_wp2
   go_ret
   exact⟨by rw[← HN.out]<;>rfl,HW.out⟩
end Go.Proofs.YtgiogemkomgkhaaGreatDoor.Mt
namespace Go.Proofs.YtgiogemkomgkhaaGreatDoor.Mt
open Go.RowKit Go.Shelf Mg Bw Bk Cn Zp Rf
set_option maxHeartbeats 4000000 in
set_option maxRecDepth 100000 in
theorem longest_calls (f b g n at' depth i:Nat) (t:ByteArray) (H:Int→Nat) (pv:List Nat) (w:World) (hF:FinAt w f b g n at' depth t H pv) (hA:Ahead H pv i) (hi:i≤t.size) (ht:t.size≤1000000) (hd:depth≤1073741824) :
  Calls Tryz.prog 107 #[.pointer (some ⟨f,0,none⟩),.int .i64 i] w fun e w'=>e= .returned (.tuple #[.int .i64 ((longP (strN t) pv H (hashV (strN t)) depth i).1:Nat),.int .i64 ((longP (strN t) pv H (hashV (strN t)) depth i).2:Nat)])∧∃ q,w'=w.drewN q:=by
 obtain⟨c0,f0⟩:=cell_at hF.blk 0 _ rfl
 by_cases h3:t.size<i+3
 ·have q1:decide ((t.size:Int)<(i:Int)+3)=true:=decide_eq_true (by omega)
  have HP:Hid (longP (strN t) pv H (hashV (strN t)) depth i=(0,0)):=Lib.hid (by unfold longP;rw[if_pos (by rw[strN_len];exact h3)])
  clear hF
  go_enter Tryz.func107,Tryz.ntmps107
  go_wp2
  go_ret2
  rw[HP.out]
  exact⟨rfl,0,rfl⟩
 ·have q1:decide ((t.size:Int)<(i:Int)+3)=false:=decide_eq_false (by omega)
  obtain⟨P,hP⟩:∃ P,longP (strN t) pv H (hashV (strN t)) depth i=P:=⟨_,rfl⟩
  obtain⟨R,hR⟩:∃ R,longGo (strN t) pv i depth (H (hashV (strN t) i)) 0 0=R:=⟨_,rfl⟩
  have HP:Hid (P=if R.1<3 then(0,0) else R):=Lib.hid (by
   rw[← hP,← hR]
   unfold longP
   rw[if_neg (by rw[strN_len];exact h3)])
  have HH:=Lib.hid (fun q=>hash_calls f b g n at' depth i t H pv (w.drewN q) (hF.drewN q) (by omega) ht)
  have hhr:=hashV_range (strN t) i
  have HAH:=Lib.hid hA
  obtain⟨h,hh⟩:∃ h,hashV (strN t) i=h:=⟨_,rfl⟩
  have hk0:=hA.1 h
  rw[hh]at HH hhr hR
  have hlk:∀ q,(Instr.lookup 172 (.map (some b)) (.int .i64 h) false).run Tryz.prog (w.drewN q)= .ok (.int .i64 (H h:Nat)) (w.drewN q):=fun q=>(hF.drewN q).map.look h (wf64 (by omega))
  obtain⟨k0,hk⟩:∃ k0,H h=k0:=⟨_,rfl⟩
  rw[hk]at hlk hR hk0
  have HR0:Hid (longGo (strN t) pv i (depth - 0) k0 0 0=R):=Lib.hid hR
  have HF:=Lib.hid hF
  obtain⟨c2, -⟩:=cell_at hF.blk 2 _ rfl
  obtain⟨P1,P2⟩:=P
  obtain⟨R1,R2⟩:=R
  have HPP:=Lib.hid hP
  rw[hP]
  clear hF hA hh hk hR hP
  go_enter Tryz.func107,Tryz.ntmps107
  go_wp2_with fail
  go_quiet ((go_at_call 128;exact Calls.quiet_of (HH.out _)))
  generalize hW:World.drewN _ _=w3
  have HW:Hid (∃ q,w3=w.drewN q):=Lib.hid ⟨_,hW.symm⟩
  clear hW hlk c0 c2 q1
  go_wp2_with fail
  go_loopw [6,7,8,9] (fun vb vd vk vn wr=>∃ bs ds k m:Nat,vb= .int .i64 bs∧vd= .int .i64 ds∧vk= .int .i64 k∧vn= .int .i64 m∧m≤depth∧k≤i∧bs≤258∧longGo (strN t) pv i (depth - m) k bs ds=(R1,R2)∧∃ q,wr=w.drewN q) (fun _ _ _ vn _=>depth - (intOf vn).toNat)
  case atStart=>exact⟨0,0,k0,0,rfl,rfl,rfl,rfl,Nat.zero_le _,hk0,by omega,HR0.out,HW.out⟩
  case round =>
   obtain⟨bs,ds,k,m,rfl,rfl,rfl,rfl,hmd,hki,hb258,hgo,hq⟩:=hrel
   have HQ:=Lib.hid hq
   have HGO:=Lib.hid hgo
   have HFr:Hid (FinAt wr f b g n at' depth t H pv):=Lib.hid (by obtain⟨q,h2⟩:=hq;rw[h2];exact HF.out.drewN q)
   obtain⟨c4, -⟩:=cell_at HFr.out.blk 4 _ rfl
   clear hq hgo HW HR0
   by_cases hk:0<k
   ·have q2:decide (0<(k:Int))=true:=decide_eq_true (by omega)
    have q2':decide (0<k)=true:=decide_eq_true hk
    by_cases hm:m<depth
    ·have q3:decide ((m:Int)<(depth:Int))=true:=decide_eq_true (by omega)
     have q3':decide (m<depth)=true:=decide_eq_true hm
     obtain⟨p,hp⟩:∃ p,k - 1=p:=⟨_,rfl⟩
     obtain⟨dd,hdd⟩:∃ dd,i - p=dd:=⟨_,rfl⟩
     have e1:(k:Int) - 1=(p:Int):=by omega
     have e2:(i:Int) - (p:Int)=(dd:Int):=by omega
     by_cases hw:dd≤32768
     ·have q4:decide ((dd:Int)≤32768)=true:=decide_eq_true (by omega)
      have HST:=HGO.out
      rw[show depth - m=(depth - (m+1))+1 by omega,longGo,if_neg (by omega),hp,hdd]at HST
      have HLC:=Lib.hid (length_calls f b g n at' depth p i t H pv wr HFr.out (by omega) hi ht)
      have hG:=(lenP_bd (strN t) p i).1
      obtain⟨G,hGG⟩:∃ G,lenP (strN t) p i=G:=⟨_,rfl⟩
      rw[hGG]at HST HLC hG
      have HST2:=Lib.hid HST
      have hpi:p<i:=by omega
      have HPV:Hid (pv.getD p 0≤i):=Lib.hid (by have:=HAH.out.2 p;omega)
      clear HST hGG hp hdd
      by_cases hgt:bs<G
      ·have q5:decide ((bs:Int)<(G:Int))=true:=decide_eq_true (by omega)
       have q5':decide (bs<G)=true:=decide_eq_true hgt
       have HST3:Hid ((if G=258 then(G,dd) else longGo (strN t) pv i (depth - (m+1)) (pv.getD p 0) G dd)=(R1,R2)):=Lib.hid (by
        have h:=HST2.out
        unfold bN bD at h
        rw[if_pos hgt,if_pos hgt]at h
        exact h)
       have hB:G≤258:=by omega
       by_cases h258:G=258
       ·have q6:((G:Int) == 258)=true:=by rw[h258];rfl
        have HE:Hid ((G,dd)=(R1,R2)):=Lib.hid (by
         have h:=HST3.out
         rw[if_pos h258]at h
         exact h)
        clear h258
        go_wp2_with fail
        refine HLC.out.mono ?_
        rintro e w5 ⟨rfl,hq5⟩
        have HQ5:Hid (∃ q,w5=w.drewN q):=Lib.hid (by obtain⟨q,h2⟩:=hq5;obtain⟨q0,h0⟩:=HQ.out;rw[h2,h0];exact⟨_,World.drewN_drewN ..⟩)
        clear hq5 c4
        obtain⟨hE1,hE2⟩:=Prod.mk.inj HE.out
        by_cases h33:G<3
        ·have q9:decide ((G:Int)<3)=true:=decide_eq_true (by omega)
         have HPQ:Hid ((P1,P2)=(0,0)):=Lib.hid (by rw[HP.out,if_pos (show R1<3 by omega)])
         clear hE1 hE2
         go_wp2
         go_ret2
         obtain⟨p1,p2⟩:=Prod.mk.inj HPQ.out
         rw[p1,p2]
         exact⟨rfl,HQ5.out⟩
        ·have q9:decide ((G:Int)<3)=false:=decide_eq_false (by omega)
         have HPQ:Hid ((P1,P2)=(G,dd)):=Lib.hid (by rw[HP.out,if_neg (show ¬ R1<3 by omega)];exact HE.out.symm)
         clear hE1 hE2
         go_wp2
         go_ret2
         obtain⟨p1,p2⟩:=Prod.mk.inj HPQ.out
         rw[p1,p2]
         exact⟨rfl,HQ5.out⟩
       ·have q6:((G:Int) == 258)=false:=beq_eq_false_iff_ne.2 (by omega)
        have HN:Hid (longGo (strN t) pv i (depth - (m+1)) (pv.getD p 0) G dd=(R1,R2)):=Lib.hid (by
         have h:=HST3.out
         rw[if_neg h258]at h
         exact h)
        clear h258
        go_wp2_with fail
        refine HLC.out.mono ?_
        rintro e w5 ⟨rfl,hq5⟩
        have HQ5:Hid (∃ q,w5=w.drewN q):=Lib.hid (by obtain⟨q,h2⟩:=hq5;obtain⟨q0,h0⟩:=HQ.out;rw[h2,h0];exact⟨_,World.drewN_drewN ..⟩)
        have HF5:Hid (FinAt w5 f b g n at' depth t H pv):=Lib.hid (by obtain⟨q,h2⟩:=HQ5.out;rw[h2];exact HF.out.drewN q)
        clear hq5 c4
        obtain⟨c3, -⟩:=cell_at HF5.out.blk 3 _ rfl
        have hcp:w5.cell? ⟨g,p,none⟩=some (.int .i64 (pv.getD p 0:Nat)):=by
         have h:=(HF5.out.row.cell p (by rw[intsN_len,HF5.out.len];omega)).1
         rw[h,← intsN_getD,List.getD_eq_getElem?_getD,List.getElem?_eq_getElem (by rw[intsN_len,HF5.out.len];omega)]
         rfl
        obtain⟨k2,hk2⟩:∃ k2,pv.getD p 0=k2:=⟨_,rfl⟩
        have HKI:Hid (k2≤i):=Lib.hid (by rw[← hk2];exact HPV.out)
        rw[hk2]at HN hcp
        have i0:(0:Int)≤(p:Int):=by omega
        have i1:(p:Int)<(t.size:Int):=by omega
        clear hk2
        go_wp2
        go_roundw
        case rel=>exact⟨G,dd,k2,m+1,rfl,rfl,rfl,by go_num,by omega,HKI.out,hB,HN.out,HQ5.out⟩
        case measure=>simp[intOf];omega
      ·have q5:decide ((bs:Int)<(G:Int))=false:=decide_eq_false (by omega)
       have q5':decide (bs<G)=false:=decide_eq_false hgt
       have HST3:Hid ((if bs=258 then(bs,ds) else longGo (strN t) pv i (depth - (m+1)) (pv.getD p 0) bs ds)=(R1,R2)):=Lib.hid (by
        have h:=HST2.out
        unfold bN bD at h
        rw[if_neg hgt,if_neg hgt]at h
        exact h)
       have hB:bs≤258:=by omega
       by_cases h258:bs=258
       ·have q6:((bs:Int) == 258)=true:=by rw[h258];rfl
        have HE:Hid ((bs,ds)=(R1,R2)):=Lib.hid (by
         have h:=HST3.out
         rw[if_pos h258]at h
         exact h)
        clear h258
        go_wp2_with fail
        refine HLC.out.mono ?_
        rintro e w5 ⟨rfl,hq5⟩
        have HQ5:Hid (∃ q,w5=w.drewN q):=Lib.hid (by obtain⟨q,h2⟩:=hq5;obtain⟨q0,h0⟩:=HQ.out;rw[h2,h0];exact⟨_,World.drewN_drewN ..⟩)
        clear hq5 c4
        obtain⟨hE1,hE2⟩:=Prod.mk.inj HE.out
        by_cases h33:bs<3
        ·have q9:decide ((bs:Int)<3)=true:=decide_eq_true (by omega)
         have HPQ:Hid ((P1,P2)=(0,0)):=Lib.hid (by rw[HP.out,if_pos (show R1<3 by omega)])
         clear hE1 hE2
         go_wp2
         go_ret2
         obtain⟨p1,p2⟩:=Prod.mk.inj HPQ.out
         rw[p1,p2]
         exact⟨rfl,HQ5.out⟩
        ·have q9:decide ((bs:Int)<3)=false:=decide_eq_false (by omega)
         have HPQ:Hid ((P1,P2)=(bs,ds)):=Lib.hid (by rw[HP.out,if_neg (show ¬ R1<3 by omega)];exact HE.out.symm)
         clear hE1 hE2
         go_wp2
         go_ret2
         obtain⟨p1,p2⟩:=Prod.mk.inj HPQ.out
         rw[p1,p2]
         exact⟨rfl,HQ5.out⟩
       ·have q6:((bs:Int) == 258)=false:=beq_eq_false_iff_ne.2 (by omega)
        have HN:Hid (longGo (strN t) pv i (depth - (m+1)) (pv.getD p 0) bs ds=(R1,R2)):=Lib.hid (by
         have h:=HST3.out
         rw[if_neg h258]at h
         exact h)
        clear h258
        go_wp2_with fail
        refine HLC.out.mono ?_
        rintro e w5 ⟨rfl,hq5⟩
        have HQ5:Hid (∃ q,w5=w.drewN q):=Lib.hid (by obtain⟨q,h2⟩:=hq5;obtain⟨q0,h0⟩:=HQ.out;rw[h2,h0];exact⟨_,World.drewN_drewN ..⟩)
        have HF5:Hid (FinAt w5 f b g n at' depth t H pv):=Lib.hid (by obtain⟨q,h2⟩:=HQ5.out;rw[h2];exact HF.out.drewN q)
        clear hq5 c4
        obtain⟨c3, -⟩:=cell_at HF5.out.blk 3 _ rfl
        have hcp:w5.cell? ⟨g,p,none⟩=some (.int .i64 (pv.getD p 0:Nat)):=by
         have h:=(HF5.out.row.cell p (by rw[intsN_len,HF5.out.len];omega)).1
         rw[h,← intsN_getD,List.getD_eq_getElem?_getD,List.getElem?_eq_getElem (by rw[intsN_len,HF5.out.len];omega)]
         rfl
        obtain⟨k2,hk2⟩:∃ k2,pv.getD p 0=k2:=⟨_,rfl⟩
        have HKI:Hid (k2≤i):=Lib.hid (by rw[← hk2];exact HPV.out)
        rw[hk2]at HN hcp
        have i0:(0:Int)≤(p:Int):=by omega
        have i1:(p:Int)<(t.size:Int):=by omega
        clear hk2
        go_wp2
        go_roundw
        case rel=>exact⟨bs,ds,k2,m+1,rfl,rfl,rfl,by go_num,by omega,HKI.out,hB,HN.out,HQ5.out⟩
        case measure=>simp[intOf];omega
     ·have q4:decide ((dd:Int)≤32768)=false:=decide_eq_false (by omega)
      have HE:Hid ((bs,ds)=(R1,R2)):=Lib.hid (by
       have h:=HGO.out
       rw[show depth - m=(depth - (m+1))+1 by omega,longGo,if_pos (by omega)]at h
       exact h)
      clear hp hdd
      obtain⟨hE1,hE2⟩:=Prod.mk.inj HE.out
      by_cases h33:bs<3
      ·have q9:decide ((bs:Int)<3)=true:=decide_eq_true (by omega)
       have HPQ:Hid ((P1,P2)=(0,0)):=Lib.hid (by rw[HP.out,if_pos (show R1<3 by omega)])
       clear hE1 hE2
       go_wp2
       go_ret2
       obtain⟨p1,p2⟩:=Prod.mk.inj HPQ.out
       rw[p1,p2]
       exact⟨rfl,HQ.out⟩
      ·have q9:decide ((bs:Int)<3)=false:=decide_eq_false (by omega)
       have HPQ:Hid ((P1,P2)=(bs,ds)):=Lib.hid (by rw[HP.out,if_neg (show ¬ R1<3 by omega)];exact HE.out.symm)
       clear hE1 hE2
       go_wp2
       go_ret2
       obtain⟨p1,p2⟩:=Prod.mk.inj HPQ.out
       rw[p1,p2]
       exact⟨rfl,HQ.out⟩
    ·have q3:decide ((m:Int)<(depth:Int))=false:=decide_eq_false (by omega)
     have q3':decide (m<depth)=false:=decide_eq_false hm
     have HE:Hid ((bs,ds)=(R1,R2)):=Lib.hid (by
      have h:=HGO.out
      rw[show depth - m=0 by omega,longGo]at h
      exact h)
     obtain⟨hE1,hE2⟩:=Prod.mk.inj HE.out
     by_cases h33:bs<3
     ·have q9:decide ((bs:Int)<3)=true:=decide_eq_true (by omega)
      have HPQ:Hid ((P1,P2)=(0,0)):=Lib.hid (by rw[HP.out,if_pos (show R1<3 by omega)])
      clear hE1 hE2
      go_wp2
      go_ret2
      obtain⟨p1,p2⟩:=Prod.mk.inj HPQ.out
      rw[p1,p2]
      exact⟨rfl,HQ.out⟩
     ·have q9:decide ((bs:Int)<3)=false:=decide_eq_false (by omega)
      have HPQ:Hid ((P1,P2)=(bs,ds)):=Lib.hid (by rw[HP.out,if_neg (show ¬ R1<3 by omega)];exact HE.out.symm)
      clear hE1 hE2
      go_wp2
      go_ret2
      obtain⟨p1,p2⟩:=Prod.mk.inj HPQ.out
      rw[p1,p2]
      exact⟨rfl,HQ.out⟩
   ·have q2:decide (0<(k:Int))=false:=decide_eq_false (by omega)
    have q2':decide (0<k)=false:=decide_eq_false hk
    have HE:Hid ((bs,ds)=(R1,R2)):=Lib.hid (by
     have h:=HGO.out
     rcases hdm:depth - m with _|x
     ·rw[hdm,longGo]at h
      exact h
     ·rw[hdm,longGo,if_pos (by omega)]at h
      exact h)
    obtain⟨hE1,hE2⟩:=Prod.mk.inj HE.out
    by_cases h33:bs<3
    ·have q9:decide ((bs:Int)<3)=true:=decide_eq_true (by omega)
     have HPQ:Hid ((P1,P2)=(0,0)):=Lib.hid (by rw[HP.out,if_pos (show R1<3 by omega)])
     clear hE1 hE2
     go_wp2
     go_ret2
     obtain⟨p1,p2⟩:=Prod.mk.inj HPQ.out
     rw[p1,p2]
     exact⟨rfl,HQ.out⟩
    ·have q9:decide ((bs:Int)<3)=false:=decide_eq_false (by omega)
     have HPQ:Hid ((P1,P2)=(bs,ds)):=Lib.hid (by rw[HP.out,if_neg (show ¬ R1<3 by omega)];exact HE.out.symm)
     clear hE1 hE2
     go_wp2
     go_ret2
     obtain⟨p1,p2⟩:=Prod.mk.inj HPQ.out
     rw[p1,p2]
     exact⟨rfl,HQ.out⟩
end Go.Proofs.YtgiogemkomgkhaaGreatDoor.Mt
namespace Go.Proofs.YtgiogemkomgkhaaGreatDoor.Mt
open Go.RowKit Go.Shelf Mg Bw Bk Cn Zp Rf
theorem intsN_rep (n:Nat):intsN (List.replicate n 0)=List.replicate n 0:=by unfold intsN;rw[List.map_replicate];rfl
theorem ahead_zero (n:Nat):Ahead (fun _=>0) (List.replicate n 0) 0:=⟨fun _=>Nat.le_refl _,fun j=>by
 rw[List.getD_eq_getElem?_getD]
 by_cases h:j<n
 ·rw[List.getElem?_eq_getElem (by rw[List.length_replicate];exact h),List.getElem_replicate]
  exact Nat.zero_le _
 ·rw[List.getElem?_eq_none (by rw[List.length_replicate];omega)]
  exact Nat.zero_le _⟩
def newE (t:ByteArray) (n:Nat):(Int→Nat)×List Nat:=entHn (strN t) (hashV (strN t)) (fun _=>0) (List.replicate t.size 0) 0 n
def NewAt (a s:ByteArray) (depth:Nat) (w:World) (e:Ending) (w':World):Prop :=
 ∃ f b g,e= .returned (.pointer (some ⟨f,0,none⟩))∧FinAt w' f b g a.size a.size depth (a++s) (newE (a++s) a.size).1 (newE (a++s) a.size).2∧Below w.heap.size w w'∧w.heap.size≤f∧w.heap.size≤b∧w.heap.size≤g
set_option maxHeartbeats 2000000 in
set_option maxRecDepth 100000 in
theorem new_calls (a s:ByteArray) (depth:Nat) (w:World) (ha:a.size≤32768) (hs:s.size≤100000) :
  Calls Tryz.prog 88 #[.string a,.string s,.int .i64 depth] w fun e w'=>NewAt a s depth w e w':=by
 obtain⟨i0,hi,hz0,hz1,hz2⟩:=info_parts info_int
 obtain⟨N,hN⟩:∃ N,(a++s).size=N:=⟨_,rfl⟩
 have hNs:N=a.size+s.size:=by rw[← hN,ByteArray.size_append]
 have hmk:∀ W:World,(Instr.makeSlice 55 (.int .i64 N) (.int .i64 N)).run Tryz.prog W= .ok (.slice (some ⟨W.heap.size,0,none⟩) N N) (W.alloc (.cells (cellsI (List.replicate N 0)) 3)):=fun W=>by
  have:=run_make (P:=Tryz.prog) W 55 3 i0 (.int .i64 0) Tryz.underlying55 hi hz0 .i64 .i64 N N (by omega) (by omega) (by rw[hz2];omega) (by omega)
  rw[← made_cells]
  simpa[hz1,Value.cells] using this
 have hmm:(Instr.makeMap 172 none).run Tryz.prog w= .ok (.map (some w.heap.size)) (w.alloc (.map #[] 0)):=by kernel_rfl
 have HNF:=Lib.hid (show newE (a++s) a.size=entHn (strN (a++s)) (hashV (strN (a++s))) (fun _=>0) (List.replicate N 0) 0 a.size by unfold newE;rw[hN])
 have e0:max ((a.size:Int) - 32768) 0=0:=by omega
 have e1:a.extract 0 a.size=a:=ext_all a
 have HMK:=Lib.hid hmk
 have HNN:=Lib.hid hN
 have hN2:N≤1000000:=by omega
 have haN:a.size≤N:=by omega
 clear hi hz0 hz1 hz2 hmk hNs hN
 go_enter Tryz.func88,Tryz.ntmps88
 go_upto_region 3 with fail
 obtain⟨T,hT⟩:∃ T,a++s=T:=⟨_,rfl⟩
 have HT:=Lib.hid hT
 rw[hT]at HNN HNF ⊢
 obtain⟨b,hb⟩:∃ b,w.heap.size=b:=⟨_,rfl⟩
 obtain⟨f,hf⟩:∃ f,w.heap.size+1=f:=⟨_,rfl⟩
 rw[hf,hb]
 obtain⟨w2,hw2⟩:∃ w2,(w.alloc (.map #[] 0)).alloc (.cells #[.string T,.int .i64 a.size,.map (some b),.slice none 0 0,.int .i64 depth] 174)=w2:=⟨_,rfl⟩
 rw[hw2]
 have HB2:Hid (Below w.heap.size w w2):=Lib.hid (by rw[← hw2];exact((Below.refl _ _).alloc (Nat.le_refl _) _).alloc (by simp) _)
 have hblk:w2.heap[f]?=some (.cells #[.string T,.int .i64 a.size,.map (some b),.slice none 0 0,.int .i64 depth] 174 (0,0)):=by
  rw[← hw2,← hf,show w.heap.size+1=(w.alloc (.map #[] 0)).heap.size by simp]
  exact World.alloc_heap_new _ _
 have HMP:Hid (OwnInt w2 b 0 (fun _=>0)):=Lib.hid (by
  rw[← hw2,← hb]
  exact(OwnInt.made w).heap (heap_alloc_old _ _ (by simp)))
 have hsz:w2.heap.size=f+1:=by rw[← hw2,← hf];simp
 have HBK:=Lib.hid hblk
 obtain⟨c0, -⟩:=cell_at hblk 0 _ rfl
 have hn0:(T.size:Int)=(N:Int):=by rw[HNN.out]
 have hbx:(w2.alloc (.cells (cellsI (List.replicate N 0)) 3)).heap[f]?=some (.cells #[.string T,.int .i64 a.size,.map (some b),.slice none 0 0,.int .i64 depth] 174 (0,0)):=(heap_alloc_old _ _ (by omega)).trans hblk
 obtain⟨d3,f3⟩:=cell_at hbx 3 _ rfl
 have hmw:=HMK.out w2
 obtain⟨g,hg⟩:∃ g,w2.heap.size=g:=⟨_,rfl⟩
 have hfg:f≠g:=by omega
 have hbf:b≠f∧b<g:=by omega
 rw[hg]at hmw
 have HRW:Hid (RowI (w2.alloc (.cells (cellsI (List.replicate N 0)) 3)) g (intsN (List.replicate N 0))):=Lib.hid (by rw[← hg,intsN_rep];exact World.alloc_heap_new _ _)
 have HMX:Hid (OwnInt (w2.alloc (.cells (cellsI (List.replicate N 0)) 3)) b 0 (fun _=>0)):=Lib.hid (HMP.out.heap (heap_alloc_old _ _ (by omega)))
 have HBX:Hid (Below w.heap.size w (w2.alloc (.cells (cellsI (List.replicate N 0)) 3))):=Lib.hid (HB2.out.alloc (by rw[hg,hb];omega) _)
 have HGB:Hid (w.heap.size≤f∧w.heap.size≤b∧w.heap.size≤g):=Lib.hid (by omega)
 have HBX3:=Lib.hid hbx
 obtain⟨X,hX⟩:∃ X,w2.alloc (.cells (cellsI (List.replicate N 0)) 3)=X:=⟨_,rfl⟩
 rw[hX]at hmw HRW HMX HBX HBX3 d3 f3
 clear hw2 hblk hmm hsz hb hf hT hg hX hbx
 go_upto_region 4 with fail
 have HF3:Hid (FinAt (X.setCell ⟨f,3,none⟩ (.slice (some ⟨g,0,none⟩) N N)) f b g 0 a.size depth T (fun _=>0) (List.replicate N 0)):=Lib.hid (by
  refine⟨?_,HMX.out.heap (Below.heap_setCell _ _ _ _ hbf.1),(Below.heap_setCell _ _ _ _ (fun e=>hfg e.symm)).trans HRW.out,by rw[List.length_replicate,HNN.out],hfg⟩
  rw[heap_setCell_same X f 3 _ _ _ HBX3.out,HNN.out]
  rfl)
 have HB3:Hid (Below w.heap.size w (X.setCell ⟨f,3,none⟩ (.slice (some ⟨g,0,none⟩) N N))):=Lib.hid (HBX.out.setCell (p:=⟨f,3,none⟩) HGB.out.1 _)
 obtain⟨w3,hw3⟩:∃ w3,X.setCell ⟨f,3,none⟩ (.slice (some ⟨g,0,none⟩) N N)=w3:=⟨_,rfl⟩
 rw[hw3]at HF3 HB3 ⊢
 clear hw3 hmw c0 d3 f3 HBX HBX3 HRW HMX HMP HBK HB2
 go_wp2_with fail
 go_loopw [35] (fun vi wr=>∃ i:Nat,vi= .int .i64 i∧i≤a.size∧FinAt wr f b g i a.size depth T (entHn (strN T) (hashV (strN T)) (fun _=>0) (List.replicate N 0) 0 i).1 (entHn (strN T) (hashV (strN T)) (fun _=>0) (List.replicate N 0) 0 i).2∧Below w.heap.size w wr) (fun vi _=>a.size - (intOf vi).toNat)
 case atStart=>exact⟨0,rfl,Nat.zero_le _,HF3.out,HB3.out⟩
 case round =>
  obtain⟨i,rfl,hi,hfi,hbl⟩:=hrel
  have HFI:=Lib.hid hfi
  have HBL:=Lib.hid hbl
  clear hfi hbl HF3 HB3
  by_cases hlt:i<a.size
  ·have q1:decide ((i:Int)<(a.size:Int))=true:=decide_eq_true (by omega)
   have q1':decide (i<a.size)=true:=decide_eq_true hlt
   have HEN:=Lib.hid (enter_calls f b g i a.size depth i T _ _ wr HFI.out (by rw[HNN.out];omega) (by rw[HNN.out];omega) (by omega))
   have hwz:w.heap.size≤wr.heap.size:=HBL.out.size
   clear hn0
   go_wp2_with fail
   refine HEN.out.mono ?_
   rintro e w5 ⟨rfl,hf5,ht5⟩
   have HF5:Hid (FinAt w5 f b g (i+1) a.size depth T (entHn (strN T) (hashV (strN T)) (fun _=>0) (List.replicate N 0) 0 (i+1)).1 (entHn (strN T) (hashV (strN T)) (fun _=>0) (List.replicate N 0) 0 (i+1)).2):=Lib.hid (by
    rw[entHn,Nat.zero_add]
    exact hf5)
   have HB5:Hid (Below w.heap.size w w5):=Lib.hid (HBL.out.trans (ht5.below (fun k hk=>by rcases hk with rfl|rfl;exact HGB.out.2.1;exact HGB.out.2.2) hwz))
   clear hf5 ht5
   go_wp2
   go_roundw
   case rel=>exact⟨i+1,by go_num,by omega,HF5.out,HB5.out⟩
   case measure=>simp[intOf];omega
  ·have hie:i=a.size:=by omega
   have q1:decide ((i:Int)<(a.size:Int))=false:=decide_eq_false (by omega)
   have q1':decide (i<a.size)=false:=decide_eq_false hlt
   have HFE:Hid (FinAt wr f b g a.size a.size depth T (newE T a.size).1 (newE T a.size).2):=Lib.hid (by
    have h:=HFI.out
    rw[hie]at h
    rw[HNF.out]
    exact h)
   clear hn0 hie
   go_wp2
   go_ret
   unfold NewAt
   exact⟨f,b,g,rfl,by rw[HT.out];exact HFE.out,HBL.out,HGB.out⟩
end Go.Proofs.YtgiogemkomgkhaaGreatDoor.Mt
namespace Go.Proofs.YtgiogemkomgkhaaGreatDoor.Rf
open Go.RowKit Go.Shelf Mg Bw Bk Cn Zp
noncomputable def ttk:TypeInfo:=(Tryz.prog.info? 151).getD default
theorem own_nil {w:World} {base T size n:Nat} {v:Value} {xs:List Value} (h:w.ownsRow base T size v n xs):v= .slice none 0 0∧n=0∨∃ g c,v= .slice (some ⟨g,0,none⟩) n c:=by
 rcases h.2 with⟨rfl,rfl⟩|⟨g,cap,cur,rfl, -⟩
 ·exact .inl ⟨rfl,rfl⟩
 ·exact .inr ⟨g,cap,rfl⟩
def tokC (t:Tok):List Value:= [.int .u8 t.b,.int .i64 t.len,.int .i64 t.dist]
def toksC (l:List Tok):List Value:=l.flatMap tokC
theorem toksC_snoc (l:List Tok) (x:Tok):toksC (l ++ [x])=toksC l++tokC x:=by simp[toksC]
theorem toksC_len (l:List Tok):(toksC l).length=l.length*3:=by
 induction l with
 | nil=>rfl
 | cons x l ih=>rw[toksC,List.flatMap_cons,List.length_append,List.length_cons];rw[toksC]at ih;rw[ih];simp[tokC];omega
theorem toksC_get (l:List Tok):∀ (j:Nat) (h:j<l.length) (k:Nat) (hk:k<3),(toksC l)[j*3+k]?=(tokC l[j])[k]?:=by
 induction l with
 | nil=>intro j h;simp at h
 | cons x l ih =>
  intro j h k hk
  rcases j with _|j
  ·rw[toksC,List.flatMap_cons,List.getElem?_append_left (by simp[tokC];omega)]
   simp
  ·rw[toksC,List.flatMap_cons,List.getElem?_append_right (by simp[tokC];omega)]
   have e:(j+1)*3+k - (tokC x).length=j*3+k:=by simp[tokC];omega
   rw[e]
   exact ih j (by simpa using h) k hk
theorem tokC_one (x:Tok):∀ u∈tokC x,u.oneCell'=true:=by
 intro u hu
 simp only[tokC,List.mem_cons,List.not_mem_nil,or_false]at hu
 rcases hu with rfl|rfl|rfl<;>rfl
theorem tokAt_own {w:World} {base:Nat} {T:TypeId} {A:Option Addr} {c:Nat} {l:List Tok} (h:w.ownsRow base T 3 (.slice A l.length c) l.length (toksC l)):TokAt w A l:=fun j hj=>by
 rcases own_nil h with⟨_,h0⟩|⟨g,cap,h0⟩
 ·omega
 ·cases h0
  have hc:=fun k hk v hv=>rows3_cell h (j*3+k) v ((toksC_get l j hj k hk).trans hv)
  refine⟨g,0,rfl,?_,?_,?_⟩
  ·rw[Nat.zero_add];exact hc 0 (by decide) _ rfl
  ·rw[Nat.zero_add];exact hc 1 (by decide) _ rfl
  ·rw[Nat.zero_add];exact hc 2 (by decide) _ rfl
theorem tokB_own {w:World} {base:Nat} {A:Option Addr} {n c:Nat} {xs:List Value} (h:w.ownsRow base 151 3 (.slice A n c) n xs) {W:World} (hb:Below w.heap.size w W) {B:Nat} (hB:w.heap.size≤B):TokB W B A:=fun g o e=>by
 rcases h.2 with⟨h0,_⟩|⟨g',cap,cur,h0,_,hg,_⟩
 ·cases h0;cases e
 ·cases h0
  cases e
  have hlt:=(Array.getElem?_eq_some_iff.1 hg).1
  exact⟨by omega,cur,(0,0),(hb.block _ hlt).trans hg⟩
theorem tokR_own {w:World} {base:Nat} {A:Option Addr} {n c:Nat} {xs:List Value} (h:w.ownsRow base 151 3 (.slice A n c) n xs):TokR w A:=fun g o e=>by
 rcases h.2 with⟨h0,_⟩|⟨g',cap,cur,h0,_,hg,_⟩
 ·cases h0;cases e
 ·cases h0
  cases e
  exact⟨cur,(0,0),hg⟩
end Go.Proofs.YtgiogemkomgkhaaGreatDoor.Rf
namespace Go.Proofs.YtgiogemkomgkhaaGreatDoor.Rf
open Go.RowKit Go.Shelf Mg Bw Bk Cn Zp
def byT (l:List Nat):List Tok:=l.map fun x:Nat=>⟨(x:Int),0,0⟩
def byS (l:List Nat):ByteArray:=strOfNums (l.map fun x:Nat=>(x:Int))
theorem byT_len (l:List Nat):(byT l).length=l.length:=List.length_map _
theorem exp_by:∀ (l:List Nat) (out:List Int),expTs out (byT l)=out++l.map fun x:Nat=>(x:Int)
 | [],out=>by simp[byT,expTs]
 | x::l,out=>by
  show expTs (expT out ⟨(x:Int),0,0⟩) (byT l)=_
  rw[exp_by l]
  simp[expT]
theorem fit_by:∀ (l:List Nat) (out:List Int),fitTs out (byT l)
 | [],_=>trivial
 | x::l,out=>⟨.inl rfl,fit_by l _⟩
theorem in_by (l:List Nat) (h:∀ x∈l,x<256):∀ t∈byT l,tokIn t∧goodT t=true∧0≤t.b∧t.b<256:=fun t ht=>by
 obtain⟨x,hx,rfl⟩:=List.mem_map.1 ht
 have:=h x hx
 exact⟨.inl ⟨rfl,by simp,by simp;omega⟩,by simp[goodT],by simp,by simp;omega⟩
theorem byT_snoc (l:List Nat) (x:Nat):byT (l ++ [x])=byT l ++ [⟨(x:Int),0,0⟩]:=by simp[byT]
end Go.Proofs.YtgiogemkomgkhaaGreatDoor.Rf
