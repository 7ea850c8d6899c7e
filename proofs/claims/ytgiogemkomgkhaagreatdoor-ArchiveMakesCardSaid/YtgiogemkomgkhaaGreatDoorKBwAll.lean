/-
  Bits of numbers, the lowest first: plain.
-/
import Derived.ProofKit
import Derived.WalkKit
import Derived.Laws.AppendOwn
import Derived.Laws.OwnMore
import Derived.Below
import Derived.Lib.Hide
import Derived.Laws.Rows
import Derived.BigQuiet
import Derived.Test.YtgiogemkomgkhaaGreatDoorProg
import Derived.WalkSpells
import Derived.WalkLawsBesides
import Derived.TacticsInMore
import Derived.LoopNIn
import Derived.Deep.RegionHeld3
import Derived.StillTailTactics
import Derived.Deep.AppendLies
import Derived.Deep.RegionLaw
import Derived.Deep.CutBlock
import Derived.Deep.DeepCutAuto
import Derived.RangeFuncRecord
set_option linter.unusedVariables false
set_option linter.unusedSimpArgs false
namespace Go.Proofs.YtgiogemkomgkhaaGreatDoor.Bw
def bitsN (n v:Nat):List Bool:=(List.range n).map v.testBit
theorem bitsN_len (n v:Nat):(bitsN n v).length=n:=by simp[bitsN]
theorem bitsN_get (n v i:Nat) (h:i<n):(bitsN n v)[i]'(by rw[bitsN_len];exact h)=v.testBit i:=by simp[bitsN]
theorem bitsN_ext {n v:Nat} {l:List Bool} (hl:l.length=n) (h:∀ i (hi:i<n),l[i]'(by omega)=v.testBit i):bitsN n v=l:=by
 apply List.ext_getElem
 ·rw[bitsN_len,hl]
 ·intro i h1 h2
  rw[bitsN_len]at h1
  rw[bitsN_get n v i h1,h i h1]
theorem bitsN_app (a b v:Nat):bitsN (a+b) v=bitsN a v++bitsN b (v/2 ^ a):=by
 refine bitsN_ext (by rw[List.length_append,bitsN_len,bitsN_len]) (fun i hi=>?_)
 rw[List.getElem_append]
 split
 ·rename_i h
  rw[bitsN_len]at h
  exact bitsN_get a v i h
 ·rename_i h
  rw[bitsN_len]at h
  have e:=bitsN_get b (v/2 ^ a) (i - a) (by omega)
  simp only[bitsN_len]
  rw[e,Nat.testBit_div_two_pow]
  congr 1
  omega
theorem bitsN_mod (a k v:Nat) (h:a≤k):bitsN a (v % 2 ^ k)=bitsN a v:=by
 refine bitsN_ext (bitsN_len _ _) (fun i hi=>?_)
 rw[bitsN_get a v i hi,Nat.testBit_mod_two_pow]
 simp[show i<k by omega]
theorem bitsN_zero (v:Nat):bitsN 0 v= []:=rfl
theorem bitsN_put (n m acc v:Nat) (h:acc<2 ^ n):bitsN (n+m) (acc+v % 2 ^ m*2 ^ n)=bitsN n acc++bitsN m v:=by
 rw[bitsN_app]
 have h1:(acc+v % 2 ^ m*2 ^ n)/2 ^ n=v % 2 ^ m:=by
  rw[Nat.add_mul_div_right _ _ (Nat.two_pow_pos n),Nat.div_eq_of_lt h,Nat.zero_add]
 have h2:(acc+v % 2 ^ m*2 ^ n) % 2 ^ n=acc:=by
  rw[Nat.add_mul_mod_self_right,Nat.mod_eq_of_lt h]
 rw[h1,bitsN_mod m m v (Nat.le_refl m),← bitsN_mod n n (acc+v % 2 ^ m*2 ^ n) (Nat.le_refl n),h2]
def wbits (dn:List Nat) (acc n:Nat):List Bool:=dn.flatMap (bitsN 8)++bitsN n acc
theorem wbits_len (dn:List Nat) (acc n:Nat):(wbits dn acc n).length=8*dn.length+n:=by
 unfold wbits
 rw[List.length_append,bitsN_len]
 congr 1
 induction dn with
 | nil=>rfl
 | cons x t ih=>rw[List.flatMap_cons,List.length_append,bitsN_len,ih,List.length_cons];omega
theorem wbits_spill (dn:List Nat) (acc n:Nat) (h:8≤n):wbits (dn ++ [acc % 256]) (acc/256) (n - 8)=wbits dn acc n:=by
 unfold wbits
 obtain⟨m,rfl⟩:∃ m,n=8+m:=⟨n - 8,by omega⟩
 rw[bitsN_app 8 m acc,List.flatMap_append,List.append_assoc]
 have e1: [acc % 256].flatMap (bitsN 8)=bitsN 8 acc:=by
  rw[List.flatMap_cons,List.flatMap_nil,List.append_nil]
  exact bitsN_mod 8 8 acc (Nat.le_refl 8)
 rw[e1,Nat.add_sub_cancel_left]
theorem wbits_put (dn:List Nat) (acc n m v:Nat) (h:acc<2 ^ n):wbits dn (acc+v % 2 ^ m*2 ^ n) (n+m)=wbits dn acc n++bitsN m v:=by
 unfold wbits
 rw[bitsN_put n m acc v h,List.append_assoc]
theorem acc_put (acc n m v:Nat) (h:acc<2 ^ n):acc+v % 2 ^ m*2 ^ n<2 ^ (n+m):=by
 have h1:=Nat.mod_lt v (Nat.two_pow_pos m)
 have h2:(v % 2 ^ m+1)*2 ^ n≤2 ^ m*2 ^ n:=Nat.mul_le_mul_right _ h1
 have h3:2 ^ (n+m)=2 ^ m*2 ^ n:=by rw[Nat.pow_add,Nat.mul_comm]
 rw[Nat.add_mul,Nat.one_mul]at h2
 omega
theorem acc_spill (acc n:Nat) (h:acc<2 ^ n) (h8:8≤n):acc/256<2 ^ (n - 8):=by
 obtain⟨m,rfl⟩:∃ m,n=8+m:=⟨n - 8,by omega⟩
 rw[Nat.add_sub_cancel_left]
 rw[Nat.pow_add]at h
 exact Nat.div_lt_of_lt_mul h
def padB (bs:List Bool):List Bool:=bs++List.replicate ((8 - bs.length % 8) % 8) false
theorem bitsN_null (n:Nat):bitsN n 0=List.replicate n false:=by
 refine bitsN_ext (by simp) (fun i hi=>by simp)
end Go.Proofs.YtgiogemkomgkhaaGreatDoor.Bw
namespace Go.Proofs.YtgiogemkomgkhaaGreatDoor.Bw
open Go.RowKit
section
variable {P:Program} (w:World)
theorem run_append_at (base:Nat) (t ty e:TypeId) (i:TypeInfo) (z:Value) (size bytes:Nat) (ht:P.underlying t=some (.slice e)) (hi:P.info? e=some i) (hz:i.zero=some z)
  (hsize:i.size=size) (hby:i.bytes=bytes) (hzs:z.cells.size=size) (hsz:0<size)
  (v:Value) (n:Nat) (xs:List Value) (hown:w.ownsRow base e size v n xs)
  (a:Addr) (m c:Nat) (news:List Value) (hl:news.length=m*size) (hnews:∀ j u,news[j]?=some u→w.cell? (a.add j)=some u) (h1:∀ u∈news,u.oneCell'=true)
  (h63:n+m≤maxLen) (hbytes:(n+m)*bytes≤140737488355328) (hbase:base≤w.heap.size) :
  ∃ v' w',(Builtin.append_ #[t,t] ty #[v,.slice (some a) m c]).run P w= .ok v' w'∧w'.ownsRow base e size v' (n+m) (xs++news)∧w.grownBy w' v.ownBlock ∧
   (∀ k,v'.ownBlock=some k→v.ownBlock=some k∨w.heap.size≤k):=by
 obtain⟨v',w',hr,h2,h3, -⟩:=run_append_own w base t ty e i z size bytes ht hi hz hsize hby hzs hsz v n xs hown a m c news hl hnews h1 h63 hbytes hbase
 refine⟨v',w',hr,h2,h3,fun k hk=>?_⟩
 subst hsize
 subst hby
 have hsmall:n+m≤9223372036854775807:=by simp only[maxLen]at h63;omega
 rcases hown.2 with⟨rfl,rfl⟩|⟨g,cap,cur,rfl,hbg,hg,hnc,hcm,hcs,htake⟩
 ·by_cases hm:m=0
  ·subst hm
   rcases h2.2 with⟨rfl, -⟩|⟨g,cap,cur,rfl, -⟩
   ·simp[Value.ownBlock]at hk
   ·exfalso
    have:(Builtin.append_ #[t,t] ty #[.slice none 0 0,.slice (some a) 0 c]).run P w= .ok (.slice none 0 0) w:=by
     simp[Builtin.append_,run_underlying ht,sizeOf,typeInfo,hi,Builtin.lenOf,Builtin.firstCells,loadCells,loadCellsFrom]
    rw[this]at hr
    simp at hr
  ·have hr2:=run_append_nil (P:=P) w t ty e i z ht hi hz a m c news hl hnews (by omega) (by omega) (by have hb:=hbytes;simp only[Nat.zero_add]at hb;omega)
   rw[hr]at hr2
   simp only[Result.ok.injEq]at hr2
   obtain⟨rfl, -⟩:=hr2
   simp only[Value.ownBlock,Option.some.injEq]at hk
   exact .inr (by omega)
 ·by_cases hroom:n+m≤cap
  ·have hfit:n*i.size+news.length≤cur.size:=by rw[hl,hcs,← Nat.add_mul];exact Nat.mul_le_mul_right _ hroom
   have hr2:=run_append_room (P:=P) w t ty e i ht hi g n cap cur hg a m c news hl hnews h1 hroom hfit
   rw[hr]at hr2
   simp only[Result.ok.injEq]at hr2
   obtain⟨rfl, -⟩:=hr2
   exact .inl hk
  ·have holds:∀ j u,xs[j]?=some u→w.cell? ((⟨g,0,none⟩:Addr).add j)=some u:=hown.cells (g:=g) rfl
   have hr2:=run_append_grow (P:=P) w t ty e i z ht hi hz ⟨g,0,none⟩ n cap xs hown.1 holds a m c news hl hnews (by omega) (by omega) (growslice_fits (by omega) hbytes)
   rw[hr]at hr2
   simp only[Result.ok.injEq]at hr2
   obtain⟨rfl, -⟩:=hr2
   simp only[Value.ownBlock,Option.some.injEq]at hk
   exact .inr (by omega)
end
theorem step_append_at {P:Program} (w:World) {ops:Array Oper} {o:Oper} {a:Act} {K:Act→World→Prop} {Q:Exit→Act→World→Prop} {E:Prop} (hgd:o.guard=none) (s x:Operand) (t:TypeId)
  (ho:o.op= .call { callee:= .builtin .append,args:= #[s,x],argTypes:= #[t,t] })
  (base:Nat) (e:TypeId) (i:TypeInfo) (z:Value) (size bytes:Nat) (ht:P.underlying t=some (.slice e)) (hi:P.info? e=some i) (hz:i.zero=some z)
  (hsize:i.size=size) (hby:i.bytes=bytes) (hzs:z.cells.size=size) (hsz:0<size)
  (v:Value) (n:Nat) (xs:List Value) (hs:a.eval s=v) (hown:w.ownsRow base e size v n xs)
  (ad:Addr) (m c:Nat) (news:List Value) (hx:a.eval x= .slice (some ad) m c) (hl:news.length=m*size) (hnews:∀ j u,news[j]?=some u→w.cell? (ad.add j)=some u) (h1:∀ u∈news,u.oneCell'=true)
  (h63:n+m≤maxLen) (hbytes:(n+m)*bytes≤140737488355328) (hbase:base≤w.heap.size)
  (h:∀ v' w',w'.ownsRow base e size v' (n+m) (xs++news)→w.grownBy w' v.ownBlock→(∀ k,v'.ownBlock=some k→v.ownBlock=some k∨w.heap.size≤k)→K (a.put o.dst v') w') :
  if Region.wanted o (yielded ops a.tmps)=true then Oper.wp P o a w K Q else E:=by
 have hw:Region.wanted o (yielded ops a.tmps)=true:=by simp[Region.wanted,hgd]
 rw[if_pos hw]
 obtain⟨v',w',hr,h2,h3,h4⟩:=run_append_at (P:=P) w base t o.type e i z size bytes ht hi hz hsize hby hzs hsz v n xs hown ad m c news hl hnews h1 h63 hbytes hbase
 unfold Oper.wp execOp
 simp only[ho,resolve,invoke,builtin,Sem.run_bind,Sem.run_pure,Result.andThen_ok,List.map_toArray,List.map_cons,List.map_nil,hs,hx,hr]
 exact h v' w' h2 h3 h4
theorem wpList_append_at {P:Program} (w:World) {ops:Array Oper} {rest:List Oper} {o:Oper} {a:Act} {Q:Exit→Act→World→Prop} (hgd:o.guard=none) (s x:Operand) (t:TypeId)
  (ho:o.op= .call { callee:= .builtin .append,args:= #[s,x],argTypes:= #[t,t] })
  (base:Nat) (e:TypeId) (i:TypeInfo) (z:Value) (size bytes:Nat) (ht:P.underlying t=some (.slice e)) (hi:P.info? e=some i) (hz:i.zero=some z)
  (hsize:i.size=size) (hby:i.bytes=bytes) (hzs:z.cells.size=size) (hsz:0<size)
  (v:Value) (n:Nat) (xs:List Value) (hs:a.eval s=v) (hown:w.ownsRow base e size v n xs)
  (ad:Addr) (m c:Nat) (news:List Value) (hx:a.eval x= .slice (some ad) m c) (hl:news.length=m*size) (hnews:∀ j u,news[j]?=some u→w.cell? (ad.add j)=some u) (h1:∀ u∈news,u.oneCell'=true)
  (h63:n+m≤maxLen) (hbytes:(n+m)*bytes≤140737488355328) (hbase:base≤w.heap.size)
  (h:∀ v' w',w'.ownsRow base e size v' (n+m) (xs++news)→w.grownBy w' v.ownBlock→(∀ k,v'.ownBlock=some k→v.ownBlock=some k∨w.heap.size≤k)→wpList P ops Q rest (a.put o.dst v') w'):wpList P ops Q (o::rest) a w :=
 wpList_plain hgd fun _ hK=>by
  obtain⟨v',w',hr,h2,h3,h4⟩:=run_append_at (P:=P) w base t o.type e i z size bytes ht hi hz hsize hby hzs hsz v n xs hown ad m c news hl hnews h1 h63 hbytes hbase
  unfold Oper.wp execOp
  simp only[ho,resolve,invoke,builtin,Sem.run_bind,Sem.run_pure,Result.andThen_ok,List.map_toArray,List.map_cons,List.map_nil,hs,hx,hr]
  exact hK _ _ (h v' w' h2 h3 h4)
end Go.Proofs.YtgiogemkomgkhaaGreatDoor.Bw
namespace Go.Proofs.YtgiogemkomgkhaaGreatDoor.Bw
open Go.RowKit
def byV (dn:List Nat):List Value:=dn.map fun (x:Nat)=>Value.int .u8 (x:Int)
theorem byV_len (dn:List Nat):(byV dn).length=dn.length:=by rw[byV,List.length_map]
structure WRaw (w:World) (base B o:Nat) (v:Value) (dn:List Nat) (acc n:Nat):Prop where
 row:w.ownsRow base 5 1 v dn.length (byV dn)
 c0:w.cell? ⟨B,o,none⟩=some v
 c1:w.cell? ⟨B,o+1,none⟩=some (.int .u64 (acc:Int))
 c2:w.cell? ⟨B,o+2,none⟩=some (.int .i64 (n:Int))
 f0:∀ k,w.frozen? ⟨B,k,none⟩=false
 ne:v.ownBlock≠some B
 byte:∀ x∈dn,x<256
 lt:acc<2 ^ n
 b:base≤w.heap.size
structure Wrote (B o:Nat) (v:Value) (w:World) (v':Value) (w':World):Prop where
 os:w'.os=w.os
 tape:w'.tape=w.tape
 output:w'.output=w.output
 size:w.heap.size≤w'.heap.size
 block:∀ k,k<w.heap.size→k≠B→v.ownBlock≠some k→w'.heap[k]?=w.heap[k]?
 rest:∀ j,(j<o∨o+3≤j)→w'.cell? ⟨B,j,none⟩=w.cell? ⟨B,j,none⟩
 own:∀ k,v'.ownBlock=some k→v.ownBlock=some k∨w.heap.size≤k
theorem Wrote.refl (B o:Nat) (v:Value) (w:World):Wrote B o v w v w:=⟨rfl,rfl,rfl,Nat.le_refl _,fun _ _ _ _=>rfl,fun _ _=>rfl,fun k h=> .inl h⟩
theorem Wrote.trans {B o:Nat} {v1 v2 v3:Value} {a b c:World} (h:Wrote B o v1 a v2 b) (k:Wrote B o v2 b v3 c):Wrote B o v1 a v3 c :=
 ⟨k.os.trans h.os,k.tape.trans h.tape,k.output.trans h.output,Nat.le_trans h.size k.size,fun i hi hB hv=>by
  refine(k.block i (Nat.lt_of_lt_of_le hi h.size) hB (fun e=>?_)).trans (h.block i hi hB hv)
  rcases h.own i e with h1|h1
  ·exact hv h1
  ·omega,fun j hj=>(k.rest j hj).trans (h.rest j hj),fun i e=>by
  rcases k.own i e with h1|h1
  ·exact h.own i h1
  ·exact .inr (Nat.le_trans h.size h1)⟩
theorem Wrote.below {B o base:Nat} {v v':Value} {w w':World} (h:Wrote B o v w v' w') (hB:base≤B) (hv:∀ k,v.ownBlock=some k→base≤k) (hs:base≤w.heap.size):Below base w w' :=
 ⟨h.os,h.tape,h.output,h.size,fun i hi=>h.block i (by omega) (by omega) (fun e=>by have:=hv i e;omega)⟩
theorem Wrote.drewN {B o:Nat} {v v':Value} {w w':World} (h:Wrote B o v w v' w') (q:Nat):Wrote B o v w v' (w'.drewN q):=by
 induction q generalizing w' with
 | zero=>exact h
 | succ q ih=>rw[← World.drew_drewN];have h:=ih h;exact⟨h.os,h.tape,h.output,h.size,h.block,h.rest,h.own⟩
theorem WRaw.drewN {w:World} {base B o:Nat} {v:Value} {dn:List Nat} {acc n:Nat} (h:WRaw w base B o v dn acc n) (q:Nat):WRaw (w.drewN q) base B o v dn acc n:=by
 induction q generalizing w with
 | zero=>exact h
 | succ q ih=>rw[← World.drew_drewN];have h:=ih h;exact⟨h.row,h.c0,h.c1,h.c2,h.f0,h.ne,h.byte,h.lt,h.b⟩
theorem WRaw.Bt {w:World} {base B o:Nat} {v:Value} {dn:List Nat} {acc n:Nat} (h:WRaw w base B o v dn acc n):B<w.heap.size:=World.block_lt_of_cell? w _ h.c0
theorem Wrote.set {B o:Nat} {v:Value} (w:World) (j:Nat) (hj:o≤j∧j<o+3) (x:Value):Wrote B o v w v (w.setCell ⟨B,j,none⟩ x):=by
 refine⟨rfl,rfl,rfl,by simp[World.setCell],fun k hk hB _=>heap_setCell_other w ⟨B,j,none⟩ k x hB,fun i hi=>?_,fun k h=> .inl h⟩
 refine World.cell?_setCell_other _ _ _ _ (fun e=>?_)
 simp only[Addr.mk.injEq]at e
 omega
theorem grown_set (w:World) (B i:Nat) (v:Value):w.grownBy (w.setCell ⟨B,i,none⟩ v) (some B):=by
 refine⟨rfl,rfl,rfl,?_,fun k hk hne=>?_⟩
 ·simp[World.setCell]
 ·exact heap_setCell_other w ⟨B,i,none⟩ k v (fun e=>hne (by rw[e]))
theorem ne_own {v:Value} {w:World} {base:Nat} {n:Nat} {xs:List Value} (h:w.ownsRow base 5 1 v n xs) {B:Nat} (hne:v.ownBlock≠some B):v.ownBlock=none∨v.ownBlock≠some B:= .inr hne
theorem WRaw.setN {w:World} {base B o:Nat} {v:Value} {dn:List Nat} {acc n:Nat} (h:WRaw w base B o v dn acc n) (m:Nat) (hm:acc<2 ^ m):WRaw (w.setCell ⟨B,o+2,none⟩ (.int .i64 (m:Int))) base B o v dn acc m :=
 ⟨h.row.kept (grown_set w B (o+2) _) (ne_own h.row h.ne),(World.cell?_setCell_other _ _ _ _ (by intro e;simp at e)).trans h.c0,(World.cell?_setCell_other _ _ _ _ (by intro e;simp at e)).trans h.c1,World.cell?_setCell_same _ _ _ h.c2,
  fun k=>by rw[World.frozen?_setCell];exact h.f0 k,h.ne,h.byte,hm,by simpa[World.setCell] using h.b⟩
theorem WRaw.setA {w:World} {base B o:Nat} {v:Value} {dn:List Nat} {acc n:Nat} (h:WRaw w base B o v dn acc n) (x:Nat) (hx:x<2 ^ n):WRaw (w.setCell ⟨B,o+1,none⟩ (.int .u64 (x:Int))) base B o v dn x n :=
 ⟨h.row.kept (grown_set w B (o+1) _) (ne_own h.row h.ne),(World.cell?_setCell_other _ _ _ _ (by intro e;simp at e)).trans h.c0,World.cell?_setCell_same _ _ _ h.c1,(World.cell?_setCell_other _ _ _ _ (by intro e;simp at e)).trans h.c2,
  fun k=>by rw[World.frozen?_setCell];exact h.f0 k,h.ne,h.byte,hx,by simpa[World.setCell] using h.b⟩
theorem WRaw.app {w w2:World} {base B o:Nat} {v:Value} {dn ds:List Nat} {acc n N:Nat} (h:WRaw w base B o v dn acc n) (hds:∀ x∈ds,x<256) (w1:World) (h1:Below w.heap.size w w1) (hb1:base≤w1.heap.size) (gv cv:Nat)
  (ho:w2.ownsRow base 5 1 (.slice (some ⟨gv,0,none⟩) N cv) N (byV (dn++ds))) (hg:w1.grownBy w2 v.ownBlock) (hfresh:v.ownBlock=some gv∨w.heap.size≤gv) :
  WRaw (w2.setCell ⟨B,o,none⟩ (.slice (some ⟨gv,0,none⟩) N cv)) base B o (.slice (some ⟨gv,0,none⟩) N cv) (dn++ds) acc n∧Wrote B o v w (.slice (some ⟨gv,0,none⟩) N cv) (w2.setCell ⟨B,o,none⟩ (.slice (some ⟨gv,0,none⟩) N cv)):=by
 have hB:=h.Bt
 have e1:w1.heap[B]?=w.heap[B]?:=h1.block B hB
 have hs1:=h1.size
 have e2:w2.heap[B]?=w.heap[B]?:=(hg.block B (by omega) (fun e=>h.ne e.symm)).trans e1
 have hne:gv≠B:=by
  rcases hfresh with e|e
  ·intro h2;subst h2;exact h.ne e
  ·omega
 have hN:N=dn.length+ds.length:=by
  have:=ho.1
  rw[byV_len,List.length_append]at this
  omega
 have c0:w2.cell? ⟨B,o,none⟩=some v:=(World.cell?_of_block (a:=⟨B,o,none⟩) e2).trans h.c0
 have c1:w2.cell? ⟨B,o+1,none⟩=some (.int .u64 (acc:Int)):=(World.cell?_of_block (a:=⟨B,o+1,none⟩) e2).trans h.c1
 have c2:w2.cell? ⟨B,o+2,none⟩=some (.int .i64 (n:Int)):=(World.cell?_of_block (a:=⟨B,o+2,none⟩) e2).trans h.c2
 have hs2:=hg.size
 refine⟨⟨?_,World.cell?_setCell_same _ _ _ c0,(World.cell?_setCell_other _ _ _ _ (by intro e;simp at e)).trans c1,(World.cell?_setCell_other _ _ _ _ (by intro e;simp at e)).trans c2,fun k=>?_,?_,?_,h.lt,?_⟩,⟨?_,?_,?_,?_,?_,?_,?_⟩⟩
 ·have hlen:N=(dn++ds).length:=by rw[List.length_append];exact hN
  rw[← hlen]
  exact ho.kept (grown_set w2 B o _) (.inr (by simp only[Value.ownBlock];intro e;cases e;exact hne rfl))
 ·rw[World.frozen?_setCell]
  have:=h.f0 k
  unfold World.frozen? at this ⊢
  simp only at this ⊢
  rw[e2]
  exact this
 ·simp only[Value.ownBlock];intro e;cases e;exact hne rfl
 ·intro x hx
  rcases List.mem_append.1 hx with h3|h3
  ·exact h.byte x h3
  ·exact hds x h3
 ·have:base≤w2.heap.size:=by omega
  simpa[World.setCell] using this
 ·exact(hg.os).trans h1.os
 ·exact(hg.tape).trans h1.tape
 ·exact(hg.output).trans h1.output
 ·have:w.heap.size≤w2.heap.size:=by omega
  simpa[World.setCell] using this
 ·intro k hk hkB hv
  rw[heap_setCell_other w2 ⟨B,o,none⟩ k _ hkB]
  exact(hg.block k (by omega) (fun e=>hv e.symm)).trans (h1.block k hk)
 ·intro j hj
  rw[World.cell?_setCell_other _ _ _ _ (by intro e;simp only[Addr.mk.injEq]at e;omega)]
  exact World.cell?_of_block (a:=⟨B,j,none⟩) e2
 ·intro k hk
  simp only[Value.ownBlock,Option.some.injEq]at hk
  subst hk
  exact hfresh
end Go.Proofs.YtgiogemkomgkhaaGreatDoor.Bw
namespace Go.Proofs.YtgiogemkomgkhaaGreatDoor.Bw
open Go.RowKit
noncomputable def tb:TypeInfo:=(Tryz.prog.info? 5).getD default
theorem one8 (x:Int):∀ u∈ [Value.int .u8 x],u.oneCell'=true:=by
 intro u hu
 simp at hu
 subst hu
 rfl
set_option maxHeartbeats 2000000 in
set_option maxRecDepth 100000 in
theorem spill_calls (base B o:Nat) (v:Value) (dn:List Nat) (acc n:Nat) (w:World) (h:WRaw w base B o v dn acc n) (hn:n≤60) (hd:dn.length≤1000000000000) :
  Calls Tryz.prog 97 #[.pointer (some ⟨B,o,none⟩)] w fun e w'=>e= .returned (.tuple #[])∧∃ v' dn' acc' n',WRaw w' base B o v' dn' acc' n'∧n'<8∧wbits dn' acc' n'=wbits dn acc n∧Wrote B o v w v' w':=by
 have H0:=Lib.hid h
 clear h
 go_enter Tryz.func97,Tryz.ntmps97
 go_wp2
 go_loopw [] (fun wr=>∃ v' dn' acc' n',WRaw wr base B o v' dn' acc' n'∧n'≤60∧wbits dn' acc' n'=wbits dn acc n∧Wrote B o v w v' wr) (fun wr=>match wr.cell? ⟨B,o+2,none⟩ with|some (.int _ k)=>k.toNat|_=>0)
 case atStart=>exact⟨v,dn,acc,n,H0.out,hn,rfl,Wrote.refl _ _ _ _⟩
 case round =>
  obtain⟨v1,dn1,acc1,n1,hr,h60,hw,hwr⟩:=hrel
  have HR:=Lib.hid hr
  have HW:=Lib.hid hw
  have HT:=Lib.hid hwr
  have c0:=hr.c0
  have c1:=hr.c1
  have c2:=hr.c2
  clear hr hw hwr
  by_cases h8:8≤n1
  ·have q1:decide ((8:Int)≤(n1:Int))=true:=decide_eq_true (by omega)
   have hlen:8*dn1.length+n1=8*dn.length+n:=by
    have:=congrArg List.length HW.out
    rw[wbits_len,wbits_len]at this
    exact this
   have hB:=HR.out.Bt
   have HF:Hid (∀ wx:World,wx.heap[B]?=wr.heap[B]?→wx.cell? ⟨B,o,none⟩=some v1∧wx.cell? ⟨B,o+1,none⟩=some (.int .u64 (acc1:Int))∧wx.frozen? ⟨B,o,none⟩=false):=Lib.hid (fun wx e=>by
    refine⟨(World.cell?_of_block (a:=⟨B,o,none⟩) e).trans HR.out.c0,(World.cell?_of_block (a:=⟨B,o+1,none⟩) e).trans HR.out.c1,?_⟩
    have:=HR.out.f0 o
    unfold World.frozen? at this ⊢
    simp only at this ⊢
    rw[e]
    exact this)
   obtain⟨X,hX⟩:∃ X,X=Obj.cells #[Value.int .u8 ((acc1:Int) % 256)] 5 (0,0):=⟨_,rfl⟩
   have HA:Hid ((wr.alloc X).drew.heap[B]?=wr.heap[B]?):=Lib.hid (((Below.refl wr.heap.size wr).alloc (Nat.le_refl _) X).block B hB)
   have HG:Hid (∀ W:World,(wr.alloc X).drew.grownBy W v1.ownBlock→W.heap[B]?=wr.heap[B]?):=Lib.hid (fun W hg=>(hg.block B (by
    show B<(Array.push _ _).size
    simp
    omega) (fun e=>HR.out.ne e.symm)).trans HA.out)
   have hmod:((acc1:Int) % 256)=((acc1 % 256:Nat):Int):=by omega
   have HM:=Lib.hid hmod
   clear hmod
   have hii:Tryz.prog.info? 5=some tb:=by kernel_rfl
   have hiz0:tb.zero=some (.int .u8 0):=by kernel_rfl
   have hiz1:tb.size=1:=by kernel_rfl
   have hiz2:tb.bytes=1:=by kernel_rfl
   have hsz9:(wr.alloc X).drew.heap.size=wr.heap.size+1:=by
    show(Array.push _ _).size=_
    simp
   have hbs:base≤(wr.alloc X).drew.heap.size:=by rw[hsz9];have:=HR.out.b;omega
   have hmx:dn1.length+1≤maxLen:=by unfold maxLen;omega
   have hby:(dn1.length+1)*1≤140737488355328:=by omega
   have HOW:Hid ((wr.alloc X).drew.ownsRow base 5 1 v1 dn1.length (byV dn1)):=Lib.hid (HR.out.row.alloc X)
   have HNW:Hid (∀ (j:Nat) (u:Value),[Value.int .u8 ((acc1:Int) % 256)][j]?=some u→(wr.alloc X).drew.cell? ((⟨wr.heap.size,0,none⟩:Addr).add j)=some u):=Lib.hid (fun j u hu=>by
    have hj:j=0:=by
     rcases Nat.eq_zero_or_pos j with h|h
     ·exact h
     ·rw[List.getElem?_eq_none (by simp;omega)]at hu;cases hu
    subst hj
    simp at hu
    subst hu
    have hn:=World.alloc_heap_new wr X
    show(wr.alloc X).cell? ⟨wr.heap.size,0,none⟩=_
    simp only[World.cell?]
    rw[hn,hX]
    rfl)
   rw[hX]at hbs HOW HNW HA HG
   clear hsz9
   have HAB:Hid (Below wr.heap.size wr (wr.alloc (.cells #[.int .u8 ((acc1:Int) % 256)] 5)).drew):=Lib.hid ((Below.refl wr.heap.size wr).alloc (Nat.le_refl _) _).drew
   go_upto_region 2 with fail
   go_cut [] from 14 to 27 (fun wx=>∃ v',WRaw wx base B o v' (dn1 ++ [acc1 % 256]) acc1 n1∧Wrote B o v1 wr v' wx)
   case first =>
    go_region_law (first|(refine step_append_at _ rfl _ _ 101 rfl base 5 tb (.int .u8 0) 1 1 Tryz.underlying101 hii hiz0 hiz1 hiz2 rfl (by decide) _ _ _ rfl HOW.out ⟨wr.heap.size,0,none⟩ 1 1 [.int .u8 ((acc1:Int) % 256)] rfl rfl HNW.out (one8 _) hmx hby hbs ?_;intro v2 w2 ho2 hg3 hn2;obtain⟨s1,s2,s3⟩:=HF.out _ (HG.out _ hg3);obtain⟨gv,cv,rfl,_,_⟩:=ho2.form (Nat.succ_pos _)))
    all_goals
     have HO:=Lib.hid ho2
     have HG3:=Lib.hid hg3
     have HN:=Lib.hid hn2
     clear ho2 hg3 hn2 s1 s2 s3
     go_wp2_with fail
     go_meet
     refine⟨_,HR.out.app (w1:=(wr.alloc (.cells #[.int .u8 ((acc1:Int) % 256)] 5)).drew) (ds:= [acc1 % 256]) (fun x hx=>?_) HAB.out hbs gv cv ?_ HG3.out ?_⟩
     ·simp at hx;omega
     ·have e:byV (dn1 ++ [acc1 % 256])=byV dn1 ++ [.int .u8 ((acc1:Int) % 256)]:=by
       unfold byV
       rw[List.map_append,List.map_cons,List.map_nil,HM.out]
      rw[e]
      exact HO.out
     ·rcases HN.out gv rfl with h|h
      ·exact .inl h
      ·exact .inr (Nat.le_trans HAB.out.size h)
   case rest =>
    obtain⟨v2,hr2,ht2⟩:=hcut
    have HR2:=Lib.hid hr2
    have HT2:=Lib.hid ht2
    have e1:=hr2.c1
    have e2:=hr2.c2
    have f1:=hr2.f0 (o+1)
    have f2:=hr2.f0 (o+2)
    clear hr2 ht2 c0 c1 c2
    go_wp2
    go_roundw
    case rel =>
     have ea:((acc1:Int)/256)=((acc1/256:Nat):Int):=by omega
     have en:((n1:Int) - 8)=((n1 - 8:Nat):Int):=by omega
     rw[ea,en]
     refine⟨v2,dn1 ++ [acc1 % 256],acc1/256,n1 - 8,(HR2.out.setA (acc1/256) ?_).setN (n1 - 8) (acc_spill _ _ HR.out.lt h8),by omega,(wbits_spill dn1 acc1 n1 h8).trans HW.out,?_⟩
     ·exact Nat.lt_of_le_of_lt (Nat.div_le_self _ _) HR.out.lt
     ·exact((HT.out.trans HT2.out).trans (Wrote.set _ (o+1) ⟨by omega,by omega⟩ _)).trans (Wrote.set _ (o+2) ⟨by omega,by omega⟩ _)
    case measure =>
     have hc:=HR.out.c2
     have hc2:=World.cell?_setCell_same _ _ (Value.int .i64 ((n1:Int) - 8)) ((World.cell?_setCell_other wc ⟨B,o+1,none⟩ ⟨B,o+2,none⟩ (Value.int .u64 ((acc1:Int)/256)) (by intro e;simp at e)).trans e2)
     rw[hc,hc2]
     simp only
     omega
  ·have q1:decide ((8:Int)≤(n1:Int))=false:=decide_eq_false (by omega)
   go_wp2
   go_end0
   exact⟨rfl,v1,dn1,acc1,n1,HR.out,by omega,HW.out,HT.out⟩
end Go.Proofs.YtgiogemkomgkhaaGreatDoor.Bw
namespace Go.Proofs.YtgiogemkomgkhaaGreatDoor.Bw
open Go.RowKit
def WAt (w:World) (base B o:Nat) (v:Value) (bs:List Bool):Prop:=∃ dn acc n,WRaw w base B o v dn acc n∧n<8∧wbits dn acc n=bs
theorem WRaw.setAN {w:World} {base B o:Nat} {v:Value} {dn:List Nat} {acc n:Nat} (h:WRaw w base B o v dn acc n) (x m:Nat) (hx:x<2 ^ m):WRaw ((w.setCell ⟨B,o+1,none⟩ (.int .u64 (x:Int))).setCell ⟨B,o+2,none⟩ (.int .i64 (m:Int))) base B o v dn x m :=
 ⟨(h.row.kept (grown_set w B (o+1) _) (ne_own h.row h.ne)).kept (grown_set _ B (o+2) _) (ne_own h.row h.ne),
  (World.cell?_setCell_other _ _ _ _ (by intro e;simp at e)).trans ((World.cell?_setCell_other _ _ _ _ (by intro e;simp at e)).trans h.c0),
  (World.cell?_setCell_other _ _ _ _ (by intro e;simp at e)).trans (World.cell?_setCell_same _ _ _ h.c1),
  World.cell?_setCell_same _ _ _ ((World.cell?_setCell_other _ _ _ _ (by intro e;simp at e)).trans h.c2),
  fun k=>by rw[World.frozen?_setCell,World.frozen?_setCell];exact h.f0 k,h.ne,h.byte,hx,by simpa[World.setCell] using h.b⟩
theorem nat_or_add (m i b:Nat) (hb:b<2 ^ i):b ||| m*2 ^ i=b+m*2 ^ i:=by
 rw[Nat.or_comm,Nat.mul_comm,← Nat.two_pow_add_eq_or_of_lt hb,Nat.add_comm,Nat.mul_comm]
theorem acc_eq (acc n val m:Nat) (hm:m≤32) (hn:n<8) (h1:1≤m) (hv:val<18446744073709551616) (ha:acc<2 ^ n) :
  Go.bits .or .u64 (acc:Int) (IntKind.u64.wrap (Go.bits .and .u64 (val:Int) (IntKind.u64.wrap (IntKind.u64.wrap (2 ^ m) - 1))*2 ^ n))=((acc+val % 2 ^ m*2 ^ n:Nat):Int):=by
 have e32:2 ^ m≤2 ^ 32:=Nat.pow_le_pow_right (by omega) hm
 have e8:2 ^ n≤2 ^ 7:=Nat.pow_le_pow_right (by omega) (by omega)
 have p0:=Nat.two_pow_pos m
 have c32:(2:Nat) ^ 32=4294967296:=by decide
 have c7:(2:Nat) ^ 7=128:=by decide
 have i1:IntKind.u64.wrap ((2:Int) ^ m)=((2 ^ m:Nat):Int):=by
  have e:((2:Int) ^ m)=((2 ^ m:Nat):Int):=(Int.natCast_pow 2 m).symm
  rw[e,IntKind.wrap_u64]
  omega
 have i2:IntKind.u64.wrap (((2 ^ m:Nat):Int) - 1)=((2 ^ m - 1:Nat):Int):=by rw[IntKind.wrap_u64];omega
 rw[i1,i2]
 have l1:=Nat.mod_lt val p0
 have hand:Go.bits .and .u64 (val:Int) ((2 ^ m - 1:Nat):Int)=((val % 2 ^ m:Nat):Int):=by
  have e:Go.bits .and .u64 (val:Int) ((2 ^ m - 1:Nat):Int)=IntKind.u64.wrap ((BitVec.ofInt 64 (val:Int) &&& BitVec.ofInt 64 ((2 ^ m - 1:Nat):Int)).toNat:Int):=rfl
  rw[e,BitVec.toNat_and]
  have b1:(BitVec.ofInt 64 (val:Int)).toNat=val:=by simp only[BitVec.toNat_ofInt];omega
  have b2:(BitVec.ofInt 64 ((2 ^ m - 1:Nat):Int)).toNat=2 ^ m - 1:=by simp only[BitVec.toNat_ofInt];omega
  rw[b1,b2,Nat.and_two_pow_sub_one_eq_mod,IntKind.wrap_u64]
  omega
 have l2:val % 2 ^ m*2 ^ n<4294967296*128:=by
  refine Nat.lt_of_lt_of_le (Nat.mul_lt_mul_of_pos_right l1 (Nat.two_pow_pos n)) (Nat.mul_le_mul (by omega) (by omega))
 rw[hand]
 have i3:IntKind.u64.wrap (((val % 2 ^ m:Nat):Int)*2 ^ n)=((val % 2 ^ m*2 ^ n:Nat):Int):=by
  have:(((val % 2 ^ m:Nat):Int)*2 ^ n)=((val % 2 ^ m*2 ^ n:Nat):Int):=by rw[Int.natCast_mul,Int.natCast_pow];rfl
  rw[this,IntKind.wrap_u64]
  omega
 rw[i3]
 have e:Go.bits .or .u64 (acc:Int) ((val % 2 ^ m*2 ^ n:Nat):Int)=IntKind.u64.wrap ((BitVec.ofInt 64 (acc:Int) ||| BitVec.ofInt 64 ((val % 2 ^ m*2 ^ n:Nat):Int)).toNat:Int):=rfl
 rw[e,BitVec.toNat_or]
 have b1:(BitVec.ofInt 64 (acc:Int)).toNat=acc:=by simp only[BitVec.toNat_ofInt];omega
 have b2:(BitVec.ofInt 64 ((val % 2 ^ m*2 ^ n:Nat):Int)).toNat=val % 2 ^ m*2 ^ n:=by simp only[BitVec.toNat_ofInt];omega
 rw[b1,b2,nat_or_add _ _ _ ha,IntKind.wrap_u64]
 omega
set_option maxHeartbeats 2000000 in
set_option maxRecDepth 100000 in
theorem write_calls (base B o:Nat) (v:Value) (bs:List Bool) (val m:Nat) (w:World) (h:WAt w base B o v bs) (hv:val<18446744073709551616) (h1:1≤m) (hm:m≤32) (hd:bs.length≤1000000000000) :
  Calls Tryz.prog 74 #[.pointer (some ⟨B,o,none⟩),.int .u64 val,.int .i64 m] w fun e w'=>e= .returned (.tuple #[])∧∃ v',WAt w' base B o v' (bs++bitsN m val)∧Wrote B o v w v' w':=by
 obtain⟨dn,acc,n,hr,hn,rfl⟩:=h
 have hae:=acc_eq acc n val m hm hn h1 hv hr.lt
 have hlt:=acc_put acc n m val hr.lt
 have hwb:=Lib.hid (wbits_put dn acc n m val hr.lt)
 generalize acc+val % 2 ^ m*2 ^ n=A at *
 have HLT:=Lib.hid hlt
 clear hlt
 have H0:=Lib.hid hr
 have c1:=hr.c1
 have c2:=hr.c2
 have f1:=hr.f0 (o+1)
 have f2:=hr.f0 (o+2)
 rw[wbits_len]at hd
 clear hr
 have t1:decide ((m:Int)<1)=false:=decide_eq_false (by omega)
 have t2:decide ((32:Int)<(m:Int))=false:=decide_eq_false (by omega)
 go_enter Tryz.func74,Tryz.ntmps74
 go_upto_region 1 with fail
 go_still_tail 17,(by kernel_rfl)
 change wpList _ _ _ _ _ w.drew
 have H1:Hid (WRaw w.drew base B o v dn acc n):=Lib.hid (H0.out.drewN 1)
 have T1:Hid (Wrote B o v w v w.drew):=Lib.hid ((Wrote.refl B o v w).drewN 1)
 have d1:w.drew.cell? ⟨B,o+1,none⟩=some (.int .u64 (acc:Int)):=c1
 have d2:w.drew.cell? ⟨B,o+2,none⟩=some (.int .i64 (n:Int)):=c2
 have g1:w.drew.frozen? ⟨B,o+1,none⟩=false:=f1
 have g2:w.drew.frozen? ⟨B,o+2,none⟩=false:=f2
 clear hae c1 c2 f1 f2 H0
 generalize w.drew=w2 at *
 go_wp2_with fail
 have enm:(n:Int)+(m:Int)=((n+m:Nat):Int):=by omega
 rw[enm]
 refine(spill_calls base B o v dn A (n+m) _ (H1.out.setAN A (n+m) HLT.out) (by omega) (by omega)).mono ?_
 rintro e w3 ⟨rfl,v3,dn3,acc3,n3,r1,r2,r3,r4⟩
 have F1:=Lib.hid r1
 have F3:=Lib.hid (r3.trans hwb.out)
 have F4:=Lib.hid (((T1.out.trans (Wrote.set _ (o+1) ⟨by omega,by omega⟩ _)).trans (Wrote.set _ (o+2) ⟨by omega,by omega⟩ _)).trans r4)
 clear r1 r3 r4 enm
 go_wp2
 go_end0
 exact⟨rfl,v3,⟨dn3,acc3,n3,F1.out,r2,F3.out⟩,F4.out⟩
end Go.Proofs.YtgiogemkomgkhaaGreatDoor.Bw
namespace Go.Proofs.YtgiogemkomgkhaaGreatDoor.Bw
open Go.RowKit
set_option maxRecDepth 100000 in
theorem write_none (base B o:Nat) (val:Int) (w:World) :
  Calls Tryz.prog 74 #[.pointer (some ⟨B,o,none⟩),.int .u64 val,.int .i64 0] w fun e w'=>e= .returned (.tuple #[])∧w'=w:=by
 go_enter Tryz.func74,Tryz.ntmps74
 go_wp2
 exact bodyPost_ret (v:= .tuple #[]) (results_none (by kernel_rfl) _ _ _) rfl ⟨rfl,rfl⟩
theorem write_any (base B o:Nat) (v:Value) (bs:List Bool) (val m:Nat) (w:World) (h:WAt w base B o v bs) (hv:val<18446744073709551616) (hm:m≤32) (hd:bs.length≤1000000000000) :
  Calls Tryz.prog 74 #[.pointer (some ⟨B,o,none⟩),.int .u64 val,.int .i64 m] w fun e w'=>e= .returned (.tuple #[])∧∃ v',WAt w' base B o v' (bs++bitsN m val)∧Wrote B o v w v' w':=by
 rcases Nat.eq_zero_or_pos m with rfl|hp
 ·refine(write_none base B o val w).mono ?_
  rintro e w' ⟨rfl,rfl⟩
  refine⟨rfl,v,?_,Wrote.refl _ _ _ _⟩
  rw[bitsN_zero,List.append_nil]
  exact h
 ·exact write_calls base B o v bs val m w h hv hp hm hd
theorem WAt.drewN {w:World} {base B o:Nat} {v:Value} {bs:List Bool} (h:WAt w base B o v bs) (q:Nat):WAt (w.drewN q) base B o v bs:=by
 obtain⟨dn,acc,n,hr,hn,hw⟩:=h
 exact⟨dn,acc,n,hr.drewN q,hn,hw⟩
theorem WAt.mod {w:World} {base B o:Nat} {v:Value} {bs:List Bool} (h:WAt w base B o v bs):∃ dn acc,WRaw w base B o v dn acc (bs.length % 8)∧wbits dn acc (bs.length % 8)=bs:=by
 obtain⟨dn,acc,n,hr,hn,rfl⟩:=h
 have e:(wbits dn acc n).length % 8=n:=by rw[wbits_len];omega
 exact⟨dn,acc,by rw[e];exact hr,by rw[e]⟩
theorem WAt.Bt {w:World} {base B o:Nat} {v:Value} {bs:List Bool} (h:WAt w base B o v bs):B<w.heap.size:=by
 obtain⟨dn,acc,n,hr, -⟩:=h
 exact hr.Bt
theorem WAt.ge {w:World} {base B o:Nat} {v:Value} {bs:List Bool} (h:WAt w base B o v bs):base≤w.heap.size∧(∀ k,v.ownBlock=some k→base≤k∧k<w.heap.size)∧v.ownBlock≠some B:=by
 obtain⟨dn,acc,n,hr, -⟩:=h
 exact⟨hr.b,hr.row.lt,hr.ne⟩
set_option maxHeartbeats 1000000 in
set_option maxRecDepth 100000 in
theorem align_calls (base B o:Nat) (v:Value) (bs:List Bool) (w:World) (h:WAt w base B o v bs) (hd:bs.length≤1000000000000) :
  Calls Tryz.prog 47 #[.pointer (some ⟨B,o,none⟩)] w fun e w'=>e= .returned (.tuple #[])∧∃ v',WAt w' base B o v' (padB bs)∧Wrote B o v w v' w':=by
 have h0:=h
 obtain⟨dn,acc,hr,hw⟩:=h.mod
 have c2:=hr.c2
 have hn:bs.length % 8<8:=Nat.mod_lt _ (by omega)
 rcases Nat.eq_zero_or_pos (bs.length % 8) with hz|hp
 ·have hpad:padB bs=bs:=by unfold padB;rw[hz];simp
  rw[hpad]
  rw[hz]at c2
  have H0:=Lib.hid h0
  clear hr hw hpad h0 hn h
  go_enter Tryz.func47,Tryz.ntmps47
  go_wp2
  go_end0
  exact⟨rfl,v,H0.out,Wrote.refl _ _ _ _⟩
 ·have hpad:padB bs=bs++bitsN (8 - bs.length % 8) 0:=by
   unfold padB
   rw[bitsN_null]
   congr 2
   omega
  have HW:=Lib.hid (fun W:World=>fun hW:WAt W base B o v bs=>write_any base B o v bs 0 (8 - bs.length % 8) W hW (by omega) (by omega) hd)
  rw[← hpad]at HW
  have HZ:=Lib.hid h0
  obtain⟨n,hn1⟩:∃ n,n=bs.length % 8:=⟨_,rfl⟩
  rw[← hn1]at c2 hp hn HW
  have t1:decide ((0:Int)<(n:Int))=true:=decide_eq_true (by omega)
  have e8:(8:Int) - (n:Int)=((8 - n:Nat):Int):=by omega
  have HE:=Lib.hid e8
  clear hr hw hpad h0 h hn1 e8
  go_enter Tryz.func47,Tryz.ntmps47
  go_wp2_with fail
  rw[HE.out]
  refine(HW.out _ HZ.out).mono ?_
  rintro e w3 ⟨rfl,v3,r1,r2⟩
  have F1:=Lib.hid r1
  have F2:=Lib.hid r2
  clear r1 r2
  go_wp2
  go_end0
  exact⟨rfl,v3,F1.out,F2.out⟩
set_option maxHeartbeats 1000000 in
set_option maxRecDepth 100000 in
theorem len_calls (base B o:Nat) (v:Value) (bs:List Bool) (w:World) (h:WAt w base B o v bs) (hd:bs.length≤1000000000000) :
  Calls Tryz.prog 108 #[.pointer (some ⟨B,o,none⟩)] w fun e w'=>e= .returned (.int .i64 (bs.length:Int))∧∃ q,w'=w.drewN q:=by
 obtain⟨dn,acc,n,hr,hn,rfl⟩:=h
 rw[wbits_len]at hd ⊢
 have c0:=hr.c0
 have c2:=hr.c2
 have hv:∃ A c,v= .slice A dn.length c:=by
  rcases hr.row.2 with⟨h1,h2⟩|⟨g,cap,cur,h1, -⟩
  ·exact⟨none,0,by rw[h1,h2]⟩
  ·exact⟨_,_,h1⟩
 obtain⟨A,c,rfl⟩:=hv
 clear hr
 have e1:wrap64 (8*(dn.length:Int))=8*(dn.length:Int):=by unfold wrap64;omega
 have e2:wrap64 (8*(dn.length:Int)+(n:Int))=8*(dn.length:Int)+(n:Int):=by unfold wrap64;omega
 go_enter Tryz.func108,Tryz.ntmps108
 go_wp2
 go_quiet (fail)
 go_wp2
 go_ret
 exact⟨by push_cast;rfl,_,rfl⟩
end Go.Proofs.YtgiogemkomgkhaaGreatDoor.Bw
