/-
  How lengths are packed: plain; and that they are told again, by as few symbols as the document says.
-/
import Derived.ProofKit
import Derived.Test.YtgiogemkomgkhaaGreatDoorKCnAll
import Derived.Deep.QuietTactic
set_option linter.unusedVariables false
set_option linter.unusedSimpArgs false
namespace Go.Proofs.YtgiogemkomgkhaaGreatDoor.Bk
structure Ex where
 (sym:Int)
 (bits val:Nat)
def againP (v:Int) (n:Nat):Option (Ex×Nat) :=
 if v=0∧11≤n then some (⟨18,7,min n 138 - 11⟩,min n 138)
 else if v=0∧3≤n then some (⟨17,3,n - 3⟩,n)
 else if v≠0∧3≤n then some (⟨16,2,min n 6 - 3⟩,min n 6)
 else none
def stepP (v:Int) (n:Nat):Ex×Nat:=(againP v n).getD (⟨v,0,0⟩,1)
theorem stepP_pos (v:Int) (n:Nat):1≤(stepP v n).2:=by
 unfold stepP againP
 split
 ·simp only[Option.getD_some];omega
 ·split
  ·simp only[Option.getD_some];omega
  ·split
   ·simp only[Option.getD_some];omega
   ·simp
theorem stepP_le (v:Int) (n:Nat) (h:1≤n):(stepP v n).2≤n:=by
 unfold stepP againP
 split
 ·simp only[Option.getD_some];omega
 ·split
  ·simp only[Option.getD_some];omega
  ·split
   ·simp only[Option.getD_some];omega
   ·simpa using h
def restP (v:Int) (n:Nat):List Ex:=if h:n=0 then [] else(stepP v n).1::restP v (n - (stepP v n).2)
termination_by n
decreasing_by
 have:=stepP_pos v n
 omega
theorem restP_zero (v:Int):restP v 0= []:=by rw[restP];rfl
theorem restP_pos (v:Int) (n:Nat) (h:n≠0):restP v n=(stepP v n).1::restP v (n - (stepP v n).2):=by rw[restP,dif_neg h]
def leadP (v:Int):List Int→Nat
 | []=>0
 | x::t=>if x=v then leadP v t+1 else 0
theorem leadP_le (v:Int):∀ l,leadP v l≤l.length
 | []=>Nat.le_refl _
 | x::t=>by
  have:=leadP_le v t
  rw[leadP]
  split
  ·rw[List.length_cons];omega
  ·omega
theorem leadP_of (v:Int):∀ (l:List Int) (m:Nat),m≤l.length→(∀ j (h:j<l.length),j<m→l[j]=v)→(∀ (h:m<l.length),l[m]≠v)→leadP v l=m
 | [],m,hm,_,_=>by
  have:m=0:=by simpa using hm
  rw[this]
  rfl
 | x::t,0,_,_,h2=>by
  have:=h2 (by simp)
  simp only[List.getElem_cons_zero]at this
  rw[leadP,if_neg this]
 | x::t,m+1,hm,h1,h2=>by
  have e:x=v:=h1 0 (by simp) (by omega)
  rw[leadP,if_pos e]
  congr 1
  refine leadP_of v t m (by simpa using hm) (fun j h hj=>?_) (fun h=>?_)
  ·have:=h1 (j+1) (by simpa using h) (by omega)
   simpa using this
  ·have:=h2 (by simpa using h)
   simpa using this
def packP (l:List Int):List Ex :=
 match l with
 | []=> []
 | v::t=>(if v=0 then restP v (leadP v t+1) else⟨v,0,0⟩::restP v (leadP v t))++packP (t.drop (leadP v t))
termination_by l.length
decreasing_by
 rw[List.length_drop,List.length_cons]
 omega
theorem packP_nil:packP []= []:=by rw[packP]
theorem packP_cons (v:Int) (t:List Int):packP (v::t)=(if v=0 then restP v (leadP v t+1) else⟨v,0,0⟩::restP v (leadP v t))++packP (t.drop (leadP v t)):=by rw[packP]
def unP (out:List Int):List Ex→Option (List Int)
 | []=>some out
 | x::t =>
  if x.sym<0∨18<x.sym then none
  else if x.sym<16 then(if x.bits≠0∨x.val≠0 then none else unP (out ++ [x.sym]) t)
  else if x.sym=16 then
   (match out.getLast? with
   | none=>none
   | some v=>if x.bits≠2∨4≤x.val then none else unP (out++List.replicate (3+x.val) v) t)
  else if x.sym=17 then(if x.bits≠3∨8≤x.val then none else unP (out++List.replicate (3+x.val) 0) t)
  else(if x.bits≠7∨128≤x.val then none else unP (out++List.replicate (11+x.val) 0) t)
def fewR (m k:Nat):Nat:=if h:k=0 then 0 else if k<3 then k else 1+fewR m (k - max 1 (min k m))
termination_by k
decreasing_by omega
def fewP (l:List Int):Nat :=
 match l with
 | []=>0
 | v::t=>(if v=0 then fewR 138 (leadP v t+1) else 1+fewR 6 (leadP v t))+fewP (t.drop (leadP v t))
termination_by l.length
decreasing_by
 rw[List.length_drop,List.length_cons]
 omega
end Go.Proofs.YtgiogemkomgkhaaGreatDoor.Bk
namespace Go.Proofs.YtgiogemkomgkhaaGreatDoor.Bk
open Go.RowKit Go.Shelf Mg Bw
def Ex.val' (e:Ex):Value:= .agg #[.int .i64 e.sym,.int .i64 (e.bits:Int),.int .u64 (e.val:Int)]
def exC (e:Ex):List Value:= [.int .i64 e.sym,.int .i64 (e.bits:Int),.int .u64 (e.val:Int)]
theorem results_ctt {P:Program} {fn:Func} {p q r:Tmp} {ty:TypeId} (h:fn.results= #[.cell p ty,.tmp q,.tmp r]) (tmps:Array Value) (w:World) (g:Nat) (t:TypeId) (cs:Array Value) (d:TypeDesc) (v u:Value)
  (hp:tmps.getD p undef= .pointer (some ⟨g,0,none⟩)) (hq:tmps.getD q undef=v) (hr:tmps.getD r undef=u) (hg:w.heap[g]?=some (.cells cs t (0,0)))
  (hu:P.underlying ty=some d) (hd:(match d with | .struct _ | .array _ _=>true|_=>false)=true) (hi:(P.info? ty).map (·.size)=some cs.size) :
  (results fn tmps).run P w= .ok (.tuple #[.agg cs,v,u]) w:=by
 have hp':tmps[p]?.getD undef= .pointer (some ⟨g,0,none⟩):=by simpa using hp
 have hq':tmps[q]?.getD undef=v:=by simpa using hq
 have hr':tmps[r]?.getD undef=u:=by simpa using hr
 simp[results,h,hp',hq',hr',asAddr,run_loadVar_row w g t ty cs (0,0) d hg hu hd hi]
set_option maxHeartbeats 1000000 in
set_option maxRecDepth 100000 in
theorem again_calls (v:Int) (n:Nat) (w:World) (hn:n≤1000000) :
  Calls Tryz.prog 147 #[.int .i64 v,.int .i64 n] w fun e w'=>(∃ x k,e= .returned (.tuple #[.agg x,.int .i64 k,.bool (againP v n).isSome])∧(∀ r,againP v n=some r→x= #[.int .i64 r.1.sym,.int .i64 (r.1.bits:Int),.int .u64 (r.1.val:Int)]∧k=(r.2:Int))∧(againP v n=none→x= #[.int .i64 0,.int .i64 0,.int .u64 0]∧k=0))∧Below w.heap.size w w':=by
 by_cases h0:v=0
 ·have q0:(v == 0)=true:=beq_iff_eq.2 h0
  have q0':(v != 0)=false:=by rw[bne,q0];rfl
  by_cases h11:11≤n
  ·have q1:decide ((11:Int)≤(n:Int))=true:=decide_eq_true (by omega)
   have e1:min (n:Int) 138=((min n 138:Nat):Int):=by omega
   have e2:((min n 138:Nat):Int) - 11=((min n 138 - 11:Nat):Int):=by omega
   have ha:againP v n=some (⟨18,7,min n 138 - 11⟩,min n 138):=by unfold againP;rw[if_pos ⟨h0,h11⟩]
   rw[ha]
   clear ha h0
   go_enter Tryz.func147,Tryz.ntmps147
   go_wp2
   refine bodyPost_ret (v:= .tuple #[.agg #[.int .i64 18,.int .i64 7,.int .u64 (min n 138 - 11:Nat)],.int .i64 ((min n 138:Nat):Int),.bool true]) (results_ctt Tryz.results147 _ _ w.heap.size 188 _ _ _ _ rfl rfl rfl (World.alloc_heap_new _ _) Tryz.underlying188 rfl (by kernel_rfl)) rfl ⟨⟨_,_,rfl,fun r hr=>by cases hr;exact⟨rfl,rfl⟩,fun h=>by cases h⟩,?_⟩
   exact(Below.refl w.heap.size w).alloc (Nat.le_refl _) _
  ·have q1:decide ((11:Int)≤(n:Int))=false:=decide_eq_false (by omega)
   by_cases h3:3≤n
   ·have q2:decide ((3:Int)≤(n:Int))=true:=decide_eq_true (by omega)
    have e2:(n:Int) - 3=((n - 3:Nat):Int):=by omega
    have ha:againP v n=some (⟨17,3,n - 3⟩,n):=by unfold againP;rw[if_neg (by omega),if_pos ⟨h0,h3⟩]
    rw[ha]
    clear ha h0
    go_enter Tryz.func147,Tryz.ntmps147
    go_wp2
    refine bodyPost_ret (v:= .tuple #[.agg #[.int .i64 17,.int .i64 3,.int .u64 (n - 3:Nat)],.int .i64 ((n:Nat):Int),.bool true]) (results_ctt Tryz.results147 _ _ w.heap.size 188 _ _ _ _ rfl rfl rfl (World.alloc_heap_new _ _) Tryz.underlying188 rfl (by kernel_rfl)) rfl ⟨⟨_,_,rfl,fun r hr=>by cases hr;exact⟨rfl,rfl⟩,fun h=>by cases h⟩,?_⟩
    exact(Below.refl w.heap.size w).alloc (Nat.le_refl _) _
   ·have q2:decide ((3:Int)≤(n:Int))=false:=decide_eq_false (by omega)
    have ha:againP v n=none:=by unfold againP;rw[if_neg (by omega),if_neg (by omega),if_neg (by omega)]
    rw[ha]
    clear ha h0
    go_enter Tryz.func147,Tryz.ntmps147
    go_wp2
    refine bodyPost_ret (v:= .tuple #[.agg #[.int .i64 0,.int .i64 0,.int .u64 0],.int .i64 0,.bool false]) (results_ctt Tryz.results147 _ _ w.heap.size 188 _ _ _ _ rfl rfl rfl (World.alloc_heap_new _ _) Tryz.underlying188 rfl (by kernel_rfl)) rfl ⟨⟨_,_,rfl,fun r hr=>(by cases hr),fun _=>⟨rfl,rfl⟩⟩,?_⟩
    exact(Below.refl w.heap.size w).alloc (Nat.le_refl _) _
 ·have q0:(v == 0)=false:=beq_eq_false_iff_ne.2 h0
  have q0':(v != 0)=true:=by rw[bne,q0];rfl
  by_cases h3:3≤n
  ·have q2:decide ((3:Int)≤(n:Int))=true:=decide_eq_true (by omega)
   have e1:min (n:Int) 6=((min n 6:Nat):Int):=by omega
   have e2:((min n 6:Nat):Int) - 3=((min n 6 - 3:Nat):Int):=by omega
   have ha:againP v n=some (⟨16,2,min n 6 - 3⟩,min n 6):=by unfold againP;rw[if_neg (by omega),if_neg (by omega),if_pos ⟨h0,h3⟩]
   rw[ha]
   clear ha h0
   go_enter Tryz.func147,Tryz.ntmps147
   go_wp2
   refine bodyPost_ret (v:= .tuple #[.agg #[.int .i64 16,.int .i64 2,.int .u64 (min n 6 - 3:Nat)],.int .i64 ((min n 6:Nat):Int),.bool true]) (results_ctt Tryz.results147 _ _ w.heap.size 188 _ _ _ _ rfl rfl rfl (World.alloc_heap_new _ _) Tryz.underlying188 rfl (by kernel_rfl)) rfl ⟨⟨_,_,rfl,fun r hr=>by cases hr;exact⟨rfl,rfl⟩,fun h=>by cases h⟩,?_⟩
   exact(Below.refl w.heap.size w).alloc (Nat.le_refl _) _
  ·have q2:decide ((3:Int)≤(n:Int))=false:=decide_eq_false (by omega)
   have ha:againP v n=none:=by unfold againP;rw[if_neg (by omega),if_neg (by omega),if_neg (by omega)]
   rw[ha]
   clear ha h0
   go_enter Tryz.func147,Tryz.ntmps147
   go_wp2
   refine bodyPost_ret (v:= .tuple #[.agg #[.int .i64 0,.int .i64 0,.int .u64 0],.int .i64 0,.bool false]) (results_ctt Tryz.results147 _ _ w.heap.size 188 _ _ _ _ rfl rfl rfl (World.alloc_heap_new _ _) Tryz.underlying188 rfl (by kernel_rfl)) rfl ⟨⟨_,_,rfl,fun r hr=>(by cases hr),fun _=>⟨rfl,rfl⟩⟩,?_⟩
   exact(Below.refl w.heap.size w).alloc (Nat.le_refl _) _
def bad15 (x:Int):Bool:=decide (x<0) || decide (15<x)
set_option maxRecDepth 100000 in
theorem bad15_calls (x:Int) (w:World):Calls Tryz.prog 145 #[.int .i64 x] w fun e w'=>e= .returned (.bool (bad15 x))∧w'=w:=by
 cases q1:decide (x<0) with
 | true =>
  go_enter Tryz.func145,Tryz.ntmps145
  go_wp2
  go_ret
  exact⟨by unfold bad15;rw[q1];rfl,rfl⟩
 | false =>
  go_enter Tryz.func145,Tryz.ntmps145
  go_wp2
  go_ret
  exact⟨by unfold bad15;rw[q1];rfl,rfl⟩
set_option maxHeartbeats 1000000 in
set_option maxRecDepth 100000 in
theorem index15_calls (A:Option Addr) (c:Nat) (cs:List Int) (w:World) (hA:Reads w A cs) (hl:cs.length≤140737488351232) :
  Calls Tryz.prog 153 #[.slice A cs.length c,.func (.func 145) #[] #[]] w fun e w'=>(∃ k:Int,e= .returned (.int .i64 k)∧decide (0≤k)=cs.any bad15)∧w'=w:=by
 have HC:=Lib.hid hA
 obtain⟨n,hn⟩:∃ n,cs.length=n:=⟨_,rfl⟩
 have HN:=Lib.hid hn
 rw[hn]at hl ⊢
 clear hA hn
 go_enter Tryz.func153,Tryz.ntmps153
 go_wp2
 go_loop [8] (fun i=>∃ k:Nat,k≤n∧i= .int .i64 k∧∀ j (h:j<cs.length),j<k→bad15 cs[j]=false) (fun i=>n - (intOf i).toNat)
 case atStart=>exact⟨0,Nat.zero_le _,rfl,fun j _ h=>by omega⟩
 case round =>
  obtain⟨k,hk,rfl,hg⟩:=hrel
  have HG:=Lib.hid hg
  clear hg
  by_cases hlt:k<n
  ·have q1:decide ((k:Int)<(n:Int))=true:=decide_eq_true (by omega)
   have k1:k<cs.length:=by rw[HN.out];exact hlt
   obtain⟨g,o,rfl,hcell⟩:=HC.out k k1
   obtain⟨x,hx⟩:∃ x,cs[k]=x:=⟨_,rfl⟩
   rw[hx]at hcell
   have HX:=Lib.hid hx
   clear hx
   cases hb:bad15 x with
   | false =>
    go_wp2_with (go_at_call 145;refine(bad15_calls _ _).mono ?_;rintro e w' ⟨rfl,rfl⟩)
    go_round
    case rel=>exact⟨k+1,by omega,by go_num,fun j h hj=>by
     rcases Nat.lt_or_ge j k with h4|h4
     ·exact HG.out j h h4
     ·obtain rfl:j=k:=by omega
      rw[HX.out];exact hb⟩
    case measure=>simp[intOf];omega
   | true =>
    have hfin:Hid (cs.any bad15=true):=Lib.hid (List.any_eq_true.2 ⟨cs[k],List.getElem_mem _,by rw[HX.out];exact hb⟩)
    go_wp2_with (go_at_call 145;refine(bad15_calls _ _).mono ?_;rintro e w' ⟨rfl,rfl⟩)
    go_ret
    exact⟨⟨_,rfl,by rw[hfin.out];exact decide_eq_true (by omega)⟩,rfl⟩
  ·have hall:Hid (cs.any bad15=false):=Lib.hid (by
    rw[List.any_eq_false]
    intro x hx
    obtain⟨j,hj,rfl⟩:=List.mem_iff_getElem.1 hx
    rw[HG.out j hj (by have:=HN.out;omega)]
    decide)
   go_wp2
   go_ret
   exact⟨⟨_,rfl,by rw[hall.out];decide⟩,rfl⟩
set_option maxHeartbeats 1000000 in
theorem contains15_calls (A:Option Addr) (c:Nat) (cs:List Int) (w:World) (hA:Reads w A cs) (hl:cs.length≤140737488351232) :
  Calls Tryz.prog 132 #[.slice A cs.length c,.func (.func 145) #[] #[]] w fun e w'=>e= .returned (.bool (cs.any bad15))∧w'=w:=by
 have HI:=Lib.hid (index15_calls A c cs w hA hl)
 clear hA
 go_enter Tryz.func132,Tryz.ntmps132
 go_wp2_with (go_at_call 153;refine HI.out.mono ?_;rintro e w' ⟨⟨k,rfl,hk⟩,rfl⟩)
 go_ret
 exact⟨by rw[← hk];rfl,rfl⟩
set_option maxHeartbeats 1000000 in
set_option maxRecDepth 100000 in
theorem run_calls (A:Option Addr) (c:Nat) (cs:List Int) (i:Nat) (hi:i<cs.length) (w:World) (hA:Reads w A cs) (hl:cs.length≤1000000) :
  Calls Tryz.prog 146 #[.slice A cs.length c,.int .i64 i] w fun e w'=>e= .returned (.int .i64 ((leadP cs[i] (cs.drop (i+1))+1:Nat):Int))∧∃ q,w'=w.drewN q:=by
 have HC:Hid (∀ q,Reads (w.drewN q) A cs):=Lib.hid (fun q=>hA.below (Go.below_drewN (Below.refl _ _) q))
 obtain⟨n,hn⟩:∃ n,cs.length=n:=⟨_,rfl⟩
 have HN:=Lib.hid hn
 obtain⟨v,hv⟩:∃ v,cs[i]=v:=⟨_,rfl⟩
 have HV:=Lib.hid hv
 have hin:i<n:=by omega
 have hnl:n≤1000000:=by omega
 rw[hn,hv]
 clear hA hn hv
 go_enter Tryz.func146,Tryz.ntmps146
 go_wp2
 go_loopw [5] (fun k wr=>∃ m:Nat,1≤m∧i+m≤n∧k= .int .i64 m∧(∃ q,wr=w.drewN q)∧∀ j (h:j<cs.length),i<j→j<i+m→cs[j]=v) (fun k _=>n - (intOf k).toNat)
 case atStart=>exact⟨1,Nat.le_refl _,by omega,rfl,⟨0,rfl⟩,fun j _ h1 h2=>by omega⟩
 case round =>
  obtain⟨m,hm1,hm2,rfl,⟨q,hq⟩,hg⟩:=hrel
  have HG:=Lib.hid hg
  have HQ:Hid (∀ nq,∃ q,wr.drewN nq=w.drewN q):=Lib.hid (fun nq=>by rw[hq];exact⟨_,World.drewN_drewN ..⟩)
  have HCr:Hid (Reads wr A cs):=Lib.hid (by rw[hq];exact HC.out q)
  clear hg hq
  have e1:(i:Int)+(m:Int)=((i+m:Nat):Int):=by omega
  have hw:IntKind.i64.wrap ((i:Int)+(m:Int))=(i:Int)+(m:Int):=by rw[IntKind.wrap_i64];omega
  by_cases hlt:i+m<n
  ·have q1:decide (((i:Int)+(m:Int))<(n:Int))=true:=decide_eq_true (by omega)
   have k1:i+m<cs.length:=by rw[HN.out];exact hlt
   obtain⟨g,o,rfl,hc1⟩:=HCr.out (i+m) k1
   obtain⟨g2,o2,h2,hc2⟩:=HCr.out i hi
   cases h2
   rw[HV.out]at hc2
   obtain⟨x,hx⟩:∃ x,cs[i+m]=x:=⟨_,rfl⟩
   rw[hx]at hc1
   have HX:=Lib.hid hx
   have n1:(0:Int)≤(i:Int)+(m:Int):=by omega
   have n2:(i:Int)+(m:Int)<(n:Int):=by omega
   have n3:((i:Int)+(m:Int)).toNat=i+m:=by omega
   clear hx e1
   cases hb:(x == v) with
   | true =>
    go_wp2
    go_quiet (fail)
    generalize hW:World.drewN _ _=w4
    have HW:Hid (∃ q,w4=w.drewN q):=Lib.hid (by rw[← hW];exact HQ.out _)
    clear hW
    go_wp2
    go_roundw
    case rel=>exact⟨m+1,by omega,by omega,by go_num,HW.out,fun j h h1 h2=>by
     rcases Nat.lt_or_ge j (i+m) with h4|h4
     ·exact HG.out j h h1 h4
     ·obtain rfl:j=i+m:=by omega
      rw[HX.out];exact beq_iff_eq.1 hb⟩
    case measure=>simp[intOf];omega
   | false =>
    have hfin:Hid (leadP v (cs.drop (i+1))+1=m):=Lib.hid (by
     rw[leadP_of v (cs.drop (i+1)) (m - 1) (by rw[List.length_drop];omega) (fun j h hj=>?_) (fun h=>?_)]
     ·omega
     ·rw[List.getElem_drop]
      exact HG.out _ _ (by omega) (by omega)
     ·rw[List.getElem_drop]
      have e:cs[i+1+(m - 1)]'(by rw[List.length_drop]at h;omega)=x:=by
       rw[← HX.out]
       congr 1
       omega
      rw[e]
      exact beq_eq_false_iff_ne.1 hb)
    go_wp2
    go_quiet (fail)
    generalize hW:World.drewN _ _=w4
    have HW:Hid (∃ q,w4=w.drewN q):=Lib.hid (by rw[← hW];exact HQ.out _)
    clear hW
    go_wp2
    go_ret
    exact⟨by rw[hfin.out];rfl,HW.out⟩
  ·have q1:decide (((i:Int)+(m:Int))<(n:Int))=false:=decide_eq_false (by omega)
   have hfin:Hid (leadP v (cs.drop (i+1))+1=m):=Lib.hid (by
    rw[leadP_of v (cs.drop (i+1)) (m - 1) (by rw[List.length_drop];have:=HN.out;omega) (fun j h hj=>?_) (fun h=>?_)]
    ·omega
    ·rw[List.getElem_drop]
     exact HG.out _ _ (by omega) (by omega)
    ·rw[List.length_drop]at h
     have:=HN.out
     omega)
   clear e1
   go_wp2
   go_quiet (fail)
   generalize hW:World.drewN _ _=w4
   have HW:Hid (∃ q,w4=w.drewN q):=Lib.hid (by rw[← hW];exact HQ.out _)
   clear hW
   go_wp2
   go_ret
   exact⟨by rw[hfin.out];rfl,HW.out⟩
end Go.Proofs.YtgiogemkomgkhaaGreatDoor.Bk
namespace Go.Proofs.YtgiogemkomgkhaaGreatDoor.Bk
open Go.RowKit Go.Shelf Mg Bw
def packR (cs:List Int):List Ex:=if cs.any bad15 then [] else packP cs
def exsC (l:List Ex):List Value:=l.flatMap exC
theorem exsC_snoc (l:List Ex) (x:Ex):exsC (l ++ [x])=exsC l++exC x:=by simp[exsC]
theorem new_cells (w:World) (l:List Value) (T:TypeId):∀ j u,l[j]?=some u→(w.alloc (.cells l.toArray T)).cell? ((⟨w.heap.size,0,none⟩:Addr).add j)=some u:=fun j u hu=>by
 have hadd:(⟨w.heap.size,0,none⟩:Addr).add j=⟨w.heap.size,j,none⟩:=by unfold Addr.add;split<;>simp_all
 rw[hadd]
 simp only[World.cell?]
 rw[World.alloc_heap_new]
 simpa using hu
noncomputable def tx:TypeInfo:=(Tryz.prog.info? 188).getD default
theorem exC_one (x:Ex):∀ u∈exC x,u.oneCell'=true:=by
 intro u hu
 simp[exC]at hu
 rcases hu with rfl|rfl|rfl<;>rfl
set_option maxHeartbeats 4000000 in
set_option maxRecDepth 100000 in
theorem pack_calls (A:Option Addr) (c:Nat) (cs:List Int) (w:World) (hA:Reads w A cs) (hl:cs.length≤1000000) :
  Calls Tryz.prog 120 #[.slice A cs.length c] w fun e w'=>(∃ v,e= .returned v∧w'.ownsRow w.heap.size 188 3 v (packR cs).length (exsC (packR cs)))∧Below w.heap.size w w':=by
 have HCF:=Lib.hid (contains15_calls A c cs w hA (by omega))
 have HRd:Hid (∀ wx,Below w.heap.size w wx→Reads wx A cs):=Lib.hid (fun wx h=>hA.below h)
 have B0:=Lib.hid (Below.refl w.heap.size w)
 cases hb:cs.any bad15 with
 | true =>
  have hp:packR cs= []:=by unfold packR;rw[hb];rfl
  rw[hp]
  rw[hb]at HCF
  have N0:=Lib.hid (World.ownsRow_nil w w.heap.size 188 3)
  clear hp hA
  go_enter Tryz.func120,Tryz.ntmps120
  go_wp2_with (go_at_call 132;refine HCF.out.mono ?_;rintro e w' ⟨rfl,rfl⟩)
  go_ret
  exact⟨⟨_,rfl,N0.out⟩,B0.out⟩
 | false =>
  have hp:packR cs=packP cs:=by unfold packR;rw[hb];rfl
  rw[hp]
  rw[hb]at HCF
  have hii:Tryz.prog.info? 188=some tx:=by kernel_rfl
  have hiz0:tx.zero=some (.agg #[.int .i64 0,.int .i64 0,.int .u64 0]):=by kernel_rfl
  have hiz1:tx.size=3:=by kernel_rfl
  have hiz2:tx.bytes=24:=by kernel_rfl
  obtain⟨n,hn⟩:∃ n,cs.length=n:=⟨_,rfl⟩
  have HN:=Lib.hid hn
  have HRun:Hid (∀ (i:Nat) (hi:i<cs.length) (W:World),Below w.heap.size w W→Calls Tryz.prog 146 #[.slice A n c,.int .i64 i] W fun e w'=>e= .returned (.int .i64 ((leadP cs[i] (cs.drop (i+1)):Nat)+1:Int))∧∃ q,w'=W.drewN q):=Lib.hid (fun i hi W hW=>by
   have h:=run_calls A c cs i hi W (HRd.out W hW) hl
   rw[hn]at h
   exact h)
  have N0:=Lib.hid (World.ownsRow_nil w w.heap.size 188 3)
  rw[hn]at HCF hl ⊢
  clear hp hA hn hb
  go_enter Tryz.func120,Tryz.ntmps120
  go_wp2_with (go_at_call 132;refine HCF.out.mono ?_;rintro e w' ⟨rfl,rfl⟩)
  go_loopw [4,5] (fun a k wr=>∃ (done:List Ex) (v:Value) (i:Nat),v=a∧k= .int .i64 i∧i≤n∧done++packP (cs.drop i)=packP cs∧done.length≤i∧wr.ownsRow w'.heap.size 188 3 v done.length (exsC done)∧Below w'.heap.size w' wr) (fun _ k _=>n - (intOf k).toNat)
  case atStart=>exact⟨[],_,0,rfl,rfl,Nat.zero_le _,by simp,Nat.le_refl _,N0.out,B0.out⟩
  case round =>
   obtain⟨done,v,i,rfl,rfl,hi,hd,hdl,hown,hbl⟩:=hrel
   have HD:=Lib.hid hd
   have HO:=Lib.hid hown
   have HB:=Lib.hid hbl
   clear hd hown hbl
   by_cases hlt:i<n
   ·have q1:decide ((i:Int)<(n:Int))=true:=decide_eq_true (by omega)
    have k1:i<cs.length:=by rw[HN.out];exact hlt
    obtain⟨g,o,rfl,hcell⟩:=HRd.out _ HB.out i k1
    have HR1:=Lib.hid (fun q:Nat=>HRun.out i k1 (wr.drewN q) (Go.below_drewN HB.out q))
    obtain⟨x,hx⟩:∃ x,cs[i]=x:=⟨_,rfl⟩
    rw[hx]at hcell HR1
    obtain⟨L,hL⟩:∃ L,leadP x (cs.drop (i+1))=L:=⟨_,rfl⟩
    rw[hL]at HR1
    have hLn:i+L+1≤n:=by
     have:=leadP_le x (cs.drop (i+1))
     rw[hL,List.length_drop,HN.out]at this
     omega
    have HXL:Hid (packP (cs.drop i)=(if x=0 then restP x (L+1) else⟨x,0,0⟩::restP x L)++packP (cs.drop (i+(L+1)))):=Lib.hid (by
     rw[List.drop_eq_getElem_cons k1,packP_cons,hx,hL,List.drop_drop]
     congr 2
     congr 1
     omega)
    clear hx hL
    go_wp2_with fail
    go_quiet (first|(go_at_call 146;exact Calls.quiet_of (HR1.out _)))
    generalize hW:World.drewN _ _=w4
    have HB4:Hid (Below w'.heap.size w' w4):=Lib.hid (by rw[← hW];exact Go.below_drewN HB.out _)
    have HO4:Hid (w4.ownsRow w'.heap.size 188 3 v done.length (exsC done)):=Lib.hid (by rw[← hW];exact own_below HO.out (Go.below_drewN (Below.refl _ _) _))
    clear hW hcell
    go_upto_if 29 with fail
    go_cut [4,7] from 29 to 36 (fun a k wx=>∃ (d1:List Ex) (v1:Value) (m:Nat),v1=a∧k= .int .i64 m∧m≤L+1∧d1.length+m≤i+L+1∧d1++(restP x m++packP (cs.drop (i+(L+1))))=packP cs∧wx.ownsRow w'.heap.size 188 3 v1 d1.length (exsC d1)∧Below w'.heap.size w' wx)
    case first =>
     by_cases h0:x=0
     ·have q0:(x != 0)=false:=by rw[bne,beq_iff_eq.2 h0];rfl
      rw[if_pos h0]at HXL
      go_wp2
      go_meet
      exact⟨done,v,L+1,rfl,rfl,Nat.le_refl _,by omega,by rw[← HXL.out];exact HD.out,HO4.out,HB4.out⟩
     ·have q0:(x != 0)=true:=by rw[bne,beq_eq_false_iff_ne.2 h0];rfl
      rw[if_neg h0]at HXL
      go_wp2_with (at_builtin;refine wpList_append_own _ rfl _ _ 181 rfl w'.heap.size 188 tx (.agg #[.int .i64 0,.int .i64 0,.int .u64 0]) 3 24 Tryz.underlying181 hii hiz0 hiz1 hiz2 rfl (by decide) _ _ _ rfl (HO4.out.alloc _) ⟨w4.heap.size,0,none⟩ 1 1 (exC ⟨x,0,0⟩) rfl rfl ?c1 ?c2 ?c3 ?c4 ?c5 ?_)
      case c1=>exact new_cells w4 (exC ⟨x,0,0⟩) _
      case c2=>exact exC_one _
      case c3=>unfold maxLen;omega
      case c4=>omega
      case c5=>have:=HB4.out.size;simp;omega
      intro v3 w3 hown1 hg1 _
      have hbl:Below w'.heap.size w' w3:=(HB4.out.alloc HB4.out.size _).grown hg1 (by have:=HB4.out.size;simp;omega) (fun r e=>(HO4.out.lt r e).1)
      rw[← exsC_snoc]at hown1
      obtain⟨gv,cv,rfl,_,_⟩:=hown1.form (by omega)
      have HO5:=Lib.hid hown1
      have HB5:=Lib.hid hbl
      clear hown1 hg1 hbl
      go_wp2
      go_meet
      exact⟨done ++ [⟨x,0,0⟩],_,L,rfl,by simp,by omega,by simp;omega,by rw[List.append_assoc];have h:=HD.out;rw[HXL.out]at h;exact h,by simpa using HO5.out,HB5.out⟩
    case rest =>
     obtain⟨d1,v1,m,rfl,rfl,hm,hml,hd1,hown,hbl⟩:=hcut
     have HD1:=Lib.hid hd1
     have HO1:=Lib.hid hown
     have HB1:=Lib.hid hbl
     clear hd1 hown hbl HO4 HB4 HD HO HB
     generalize wc=wo at *
     go_wp2
     go_loopw [4,7] (fun a k wr=>∃ (d2:List Ex) (v2:Value) (m2:Nat),v2=a∧k= .int .i64 m2∧m2≤m∧d2.length+m2≤i+L+1∧d2++(restP x m2++packP (cs.drop (i+(L+1))))=packP cs∧wr.ownsRow w'.heap.size 188 3 v2 d2.length (exsC d2)∧Below w'.heap.size w' wr) (fun _ k _=>(intOf k).toNat)
     case atStart=>exact⟨d1,v1,m,rfl,rfl,Nat.le_refl _,hml,HD1.out,HO1.out,HB1.out⟩
     case round =>
      obtain⟨d2,v2,m2,rfl,rfl,hm2,hml2,hd2,hown,hbl⟩:=hrel
      have HD2:=Lib.hid hd2
      have HO2:=Lib.hid hown
      have HB2:=Lib.hid hbl
      clear hd2 hown hbl
      rcases Nat.eq_zero_or_pos m2 with rfl|hp
      ·have hfin:Hid (d2++packP (cs.drop (i+(L+1)))=packP cs):=Lib.hid (by
        have h:=HD2.out
        rw[restP_zero,List.nil_append]at h
        exact h)
       go_wp2
       go_roundw
       case rel=>exact⟨d2,v2,i+(L+1),rfl,by simp,by omega,hfin.out,by omega,HO2.out,HB2.out⟩
       case measure=>simp[intOf];omega
      ·have q2:decide ((0:Int)<(m2:Int))=true:=decide_eq_true (by omega)
       have HAg:=Lib.hid (fun W:World=>again_calls x m2 W (by omega))
       have HRp:=Lib.hid (restP_pos x m2 (by omega))
       have hs1:=stepP_le x m2 hp
       have hs2:=stepP_pos x m2
       cases hag:againP x m2 with
       | some r =>
        have hst:stepP x m2=r:=by unfold stepP;rw[hag];rfl
        rw[hag]at HAg
        rw[hst]at HRp hs1 hs2
        obtain⟨⟨rs,rb,rv⟩,rk⟩:=r
        simp only at hs1 hs2
        clear hst hag
        go_upto_region 16 with(first|(go_at_call 147;refine(HAg.out _).mono ?_;rintro e w5 ⟨⟨xx,kk,rfl,hr,hno⟩,hbl⟩;obtain⟨rfl,rfl⟩:=hr _ rfl;have HB5:=Lib.hid (HB2.out.trans (hbl.mono HB2.out.size));have HO5:=Lib.hid (own_below HO2.out hbl);clear hr hno hbl))
        have B6:=HB5.out.alloc HB5.out.size (.cells #[.int .i64 rs,.int .i64 (rb:Int),.int .u64 (rv:Int)] 188)
        have HO6':=HO5.out.alloc (.cells #[.int .i64 rs,.int .i64 (rb:Int),.int .u64 (rv:Int)] 188)
        have z0:=new_cells w5 [.int .i64 rs,.int .i64 (rb:Int),.int .u64 (rv:Int)] 188 0 _ rfl
        have z1:=new_cells w5 [.int .i64 rs,.int .i64 (rb:Int),.int .u64 (rv:Int)] 188 1 _ rfl
        have z2:=new_cells w5 [.int .i64 rs,.int .i64 (rb:Int),.int .u64 (rv:Int)] 188 2 _ rfl
        rw[show(⟨w5.heap.size,0,none⟩:Addr).add 0=⟨w5.heap.size,0,none⟩ from rfl]at z0
        rw[show(⟨w5.heap.size,0,none⟩:Addr).add 1=⟨w5.heap.size,1,none⟩ from rfl]at z1
        rw[show(⟨w5.heap.size,0,none⟩:Addr).add 2=⟨w5.heap.size,2,none⟩ from rfl]at z2
        obtain⟨W6,hW6⟩:∃ W6,W6=w5.alloc (.cells #[.int .i64 rs,.int .i64 (rb:Int),.int .u64 (rv:Int)] 188):=⟨_,rfl⟩
        have hz:([.int .i64 rs,.int .i64 (rb:Int),.int .u64 (rv:Int)]:List Value).toArray= #[.int .i64 rs,.int .i64 (rb:Int),.int .u64 (rv:Int)]:=rfl
        rw[hz,← hW6]at z0 z1 z2
        rw[← hW6]at B6 HO6' ⊢
        have HO6:=Lib.hid HO6'
        have HB6:=Lib.hid B6
        clear hW6 B6 HO6' hz
        go_wp2_with (at_builtin;refine wpList_append_own _ rfl _ _ 181 rfl w'.heap.size 188 tx (.agg #[.int .i64 0,.int .i64 0,.int .u64 0]) 3 24 Tryz.underlying181 hii hiz0 hiz1 hiz2 rfl (by decide) _ _ _ rfl (HO6.out.alloc _) ⟨W6.heap.size,0,none⟩ 1 1 (exC ⟨rs,rb,rv⟩) rfl rfl ?c1 ?c2 ?c3 ?c4 ?c5 ?_)
        case c1=>exact new_cells W6 (exC ⟨rs,rb,rv⟩) _
        case c2=>exact exC_one _
        case c3=>unfold maxLen;omega
        case c4=>omega
        case c5=>have:=HB6.out.size;simp;omega
        intro v3 w3 hown1 hg1 _
        have hbl:Below w'.heap.size w' w3:=(HB6.out.alloc HB6.out.size _).grown hg1 (by have:=HB6.out.size;simp;omega) (fun r e=>(HO6.out.lt r e).1)
        rw[← exsC_snoc]at hown1
        obtain⟨gv,cv,rfl,_,_⟩:=hown1.form (by omega)
        have HO7:=Lib.hid hown1
        have HB7:=Lib.hid hbl
        clear hown1 hg1 hbl z0 z1 z2
        go_wp2
        go_roundw
        case rel=>exact⟨d2 ++ [⟨rs,rb,rv⟩],_,m2 - rk,rfl,by go_num,by omega,by simp;omega,by rw[List.append_assoc];have h:=HD2.out;rw[HRp.out]at h;exact h,by simpa using HO7.out,HB7.out⟩
        case measure=>simp[intOf];omega
       | none =>
        have hst:stepP x m2=(⟨x,0,0⟩,1):=by unfold stepP;rw[hag];rfl
        rw[hag]at HAg
        rw[hst]at HRp hs1 hs2
        clear hst hag
        go_upto_region 16 with(first|(go_at_call 147;refine(HAg.out _).mono ?_;rintro e w5 ⟨⟨xx,kk,rfl,hr,hno⟩,hbl⟩;obtain⟨rfl,rfl⟩:=hno rfl;have HB5:=Lib.hid (HB2.out.trans (hbl.mono HB2.out.size));have HO5:=Lib.hid (own_below HO2.out hbl);clear hr hno hbl))
        have B6:=HB5.out.alloc HB5.out.size (.cells #[.int .i64 x,.int .i64 0,.int .u64 0] 188)
        have HO6':=HO5.out.alloc (.cells #[.int .i64 x,.int .i64 0,.int .u64 0] 188)
        have z0:=new_cells w5 [.int .i64 x,.int .i64 0,.int .u64 0] 188 0 _ rfl
        have z1:=new_cells w5 [.int .i64 x,.int .i64 0,.int .u64 0] 188 1 _ rfl
        have z2:=new_cells w5 [.int .i64 x,.int .i64 0,.int .u64 0] 188 2 _ rfl
        rw[show(⟨w5.heap.size,0,none⟩:Addr).add 0=⟨w5.heap.size,0,none⟩ from rfl]at z0
        rw[show(⟨w5.heap.size,0,none⟩:Addr).add 1=⟨w5.heap.size,1,none⟩ from rfl]at z1
        rw[show(⟨w5.heap.size,0,none⟩:Addr).add 2=⟨w5.heap.size,2,none⟩ from rfl]at z2
        obtain⟨W6,hW6⟩:∃ W6,W6=w5.alloc (.cells #[.int .i64 x,.int .i64 0,.int .u64 0] 188):=⟨_,rfl⟩
        have hz:([.int .i64 x,.int .i64 0,.int .u64 0]:List Value).toArray= #[.int .i64 x,.int .i64 0,.int .u64 0]:=rfl
        rw[hz,← hW6]at z0 z1 z2
        rw[← hW6]at B6 HO6' ⊢
        have HO6:=Lib.hid HO6'
        have HB6:=Lib.hid B6
        clear hW6 B6 HO6' hz
        go_wp2_with (at_builtin;refine wpList_append_own _ rfl _ _ 181 rfl w'.heap.size 188 tx (.agg #[.int .i64 0,.int .i64 0,.int .u64 0]) 3 24 Tryz.underlying181 hii hiz0 hiz1 hiz2 rfl (by decide) _ _ _ rfl (HO6.out.alloc _) ⟨W6.heap.size,0,none⟩ 1 1 (exC ⟨x,0,0⟩) rfl rfl ?c1 ?c2 ?c3 ?c4 ?c5 ?_)
        case c1=>exact new_cells W6 (exC ⟨x,0,0⟩) _
        case c2=>exact exC_one _
        case c3=>unfold maxLen;omega
        case c4=>omega
        case c5=>have:=HB6.out.size;simp;omega
        intro v3 w3 hown1 hg1 _
        have hbl:Below w'.heap.size w' w3:=(HB6.out.alloc HB6.out.size _).grown hg1 (by have:=HB6.out.size;simp;omega) (fun r e=>(HO6.out.lt r e).1)
        rw[← exsC_snoc]at hown1
        obtain⟨gv,cv,rfl,_,_⟩:=hown1.form (by omega)
        have HO7:=Lib.hid hown1
        have HB7:=Lib.hid hbl
        clear hown1 hg1 hbl z0 z1 z2
        go_wp2
        go_roundw
        case rel=>exact⟨d2 ++ [⟨x,0,0⟩],_,m2 - 1,rfl,by go_num,by omega,by simp;omega,by rw[List.append_assoc];have h:=HD2.out;rw[HRp.out]at h;exact h,by simpa using HO7.out,HB7.out⟩
        case measure=>simp[intOf];omega
   ·obtain rfl:i=n:=by omega
    have hfin:Hid (done=packP cs):=Lib.hid (by
     have h:=HD.out
     rw[List.drop_eq_nil_of_le (by rw[HN.out];exact Nat.le_refl _),packP_nil,List.append_nil]at h
     exact h)
    go_wp2
    go_ret
    exact⟨⟨_,rfl,by rw[← hfin.out];exact HO.out⟩,HB.out⟩
end Go.Proofs.YtgiogemkomgkhaaGreatDoor.Bk
