/-
  A region that draws its order, walked once: operations that read; and operations that change the world, whose values hang on the order.
-/
import Derived.Deep.Quiet
import Derived.WalkKit
import Derived.Below
set_option linter.unusedVariables false
set_option linter.unusedSimpArgs false
namespace Go.Proofs.YtgiogemkomgkhaaGreatDoor.Ri
open Go
def upd (L:Nat→Bool) (i:Nat):Nat→Bool:=fun j=>if j=i then true else L j
theorem upd_same (L:Nat→Bool) (i:Nat):upd L i i=true:=if_pos rfl
theorem upd_other (L:Nat→Bool) (i j:Nat) (h:j≠i):upd L i j=L j:=if_neg h
def plainOps:Nat→List Oper→Bool
 | _,[]=>true
 | i,o::os=>o.guard.isNone && o.after.all (fun e=> !Region.binds .any e || decide (e.on<i)) && plainOps (i+1) os
theorem plain_at:∀ (l:List Oper) (k i:Nat) (o:Oper),plainOps k l=true→l[i]?=some o→o.guard=none∧∀ e∈o.after,Region.binds .any e=true→e.on<k+i
 | [],_,_,_,_,h=>by simp at h
 | o::os,k,0,o',hp,h=>by
  simp only[List.getElem?_cons_zero,Option.some.injEq]at h
  subst h
  simp only[plainOps,Bool.and_eq_true]at hp
  refine⟨by simpa using hp.1.1,fun e he hb=>?_⟩
  have h2:=Array.all_eq_true_iff_forall_mem.1 hp.1.2 e he
  rw[hb]at h2
  simpa using h2
 | o::os,k,i+1,o',hp,h=>by
  simp only[plainOps,Bool.and_eq_true]at hp
  have:=plain_at os (k+1) i o' hp.2 (by simpa using h)
  refine⟨this.1,fun e he hb=>?_⟩
  have:=this.2 e he hb
  omega
def Pre (L:Nat→Bool):List Edge→Prop
 | []=>True
 | e::es=>(Region.binds .any e=true→L e.on=true)∧Pre L es
theorem pre_of {L:Nat→Bool}:∀ l:List Edge,(∀ e∈l,Region.binds .any e=true→L e.on=true)→Pre L l
 | [],_=>True.intro
 | e::es,h=>⟨h e List.mem_cons_self,pre_of es fun x hx=>h x (List.mem_cons_of_mem _ hx)⟩
def Steps (P:Program) (Q:Exit→Act→World→Prop) (Inv:(Nat→Bool)→Act→World→Prop):Nat→List Oper→Prop
 | _,[]=>True
 | i,o::os=>(∀ L a w,L i=false→Pre L o.after.toList→Inv L a w→o.wp P a w (fun a' w'=>Inv (upd L i) a' w') Q)∧Steps P Q Inv (i+1) os
theorem steps_at {P:Program} {Q:Exit→Act→World→Prop} {Inv:(Nat→Bool)→Act→World→Prop}:∀ (l:List Oper) (k i:Nat) (o:Oper),Steps P Q Inv k l→l[i]?=some o →
  ∀ L a w,L (k+i)=false→Pre L o.after.toList→Inv L a w→o.wp P a w (fun a' w'=>Inv (upd L (k+i)) a' w') Q
 | [],_,_,_,_,h=>by simp at h
 | o::os,k,0,o',hs,h=>by
  simp only[List.getElem?_cons_zero,Option.some.injEq]at h
  subst h
  exact hs.1
 | o::os,k,i+1,o',hs,h=>by
  have:=steps_at os (k+1) i o' hs.2 (by simpa using h)
  rw[show k+(i+1)=k+1+i by omega]
  exact this
def left (n:Nat) (listed:Array Bool):List Nat:=(List.range n).filter fun i=> !listed.getD i true
theorem filt_set (listed:Array Bool) (i:Nat) (hi:listed.getD i true=false):∀ l:List Nat,l.Nodup→i∈l →
  (l.filter fun j=> !(listed.setIfInBounds i true).getD j true).length+1≤(l.filter fun j=> !listed.getD j true).length
 | [],_,h=>by cases h
 | a::l,hn,h=>by
  have hlt:i<listed.size:=by
   rcases Nat.lt_or_ge i listed.size with h1|h1
   ·exact h1
   ·simp[Array.getElem?_eq_none h1]at hi
  have hother:∀ j,j≠i→(listed.setIfInBounds i true).getD j true=listed.getD j true:=fun j hj=>by
   simp[Array.getElem?_setIfInBounds,Ne.symm hj]
  have hsame:(listed.setIfInBounds i true).getD i true=true:=by simp[Array.getElem?_setIfInBounds,hlt]
  rw[List.nodup_cons]at hn
  by_cases ha:a=i
  ·subst ha
   rw[List.filter_cons_of_neg (by rw[hsame];decide),List.filter_cons_of_pos (by rw[hi];decide),List.length_cons]
   have:(l.filter fun j=> !(listed.setIfInBounds a true).getD j true)=l.filter fun j=> !listed.getD j true:=by
    refine List.filter_congr (fun j hj=>?_)
    rw[hother j (fun e=>hn.1 (by rw[← e];exact hj))]
   rw[this]
   exact Nat.le_refl _
  ·have ih:=filt_set listed i hi l hn.2 (by rcases List.mem_cons.1 h with h|h;exact absurd h.symm ha;exact h)
   have e:=hother a ha
   cases hb:listed.getD a true with
   | true=>rw[List.filter_cons_of_neg (by rw[e,hb];decide),List.filter_cons_of_neg (by rw[hb];decide)];exact ih
   | false=>rw[List.filter_cons_of_pos (by rw[e,hb];decide),List.filter_cons_of_pos (by rw[hb];decide),List.length_cons,List.length_cons];omega
section
variable {P:Program} {Q:Exit→Act→World→Prop} {l:List Oper} {Inv:(Nat→Bool)→Act→World→Prop}
theorem ready_nil (hp:plainOps 0 l=true) (listed:Array Bool) (hr:Region.ready .any l.toArray listed= []) (hsz:listed.size=l.length):∀ i,i<l.length→listed.getD i true=true:=by
 intro i
 induction i using Nat.strongRecOn with
 | ind i ih =>
  intro hi
  cases h:listed.getD i true with
  | true=>rfl
  | false =>
   have:i∈Region.ready .any l.toArray listed:=by
    refine mem_ready.2 ⟨h,l[i],by simp[hi],fun e he hb=>?_⟩
    have h1:=(plain_at l 0 i l[i] hp (by simp[hi])).2 e he hb
    have h2:=ih e.on (by omega) (by omega)
    have h3:e.on<listed.size:=by omega
    simpa[h3] using h2
   rw[hr]at this
   cases this
theorem wpAny_inv (hp:plainOps 0 l=true) (hs:Steps P Q Inv 0 l) (hf:∀ L a w,(∀ i,i<l.length→L i=true)→Inv L a w→Q .normal a w) :
  ∀ (fuel:Nat) (listed:Array Bool) (a:Act) (w:World),listed.size=l.length→(left l.length listed).length≤fuel→Inv (fun i=>listed.getD i false) a w→wpAny P .any l.toArray Q fuel listed a w:=by
 have hfin:∀ (listed:Array Bool) (a:Act) (w:World),listed.size=l.length→Region.ready .any l.toArray listed= []→Inv (fun i=>listed.getD i false) a w→Q .normal a w:=fun listed a w hsz hr hI =>
  hf _ a w (fun i hi=>by
   have:=ready_nil hp listed hr hsz i hi
   have h3:i<listed.size:=by omega
   simpa[h3] using this) hI
 intro fuel
 induction fuel with
 | zero =>
  intro listed a w hsz hc hI
  have hr:Region.ready .any l.toArray listed= []:=by
   rw[List.eq_nil_iff_forall_not_mem]
   intro i hi
   obtain⟨h1,o,h2, -⟩:=mem_ready.1 hi
   have h3:i<l.length:=by simpa using(Array.getElem?_eq_some_iff.1 h2).1
   have h4:i∈left l.length listed:=List.mem_filter.2 ⟨List.mem_range.2 h3,by rw[h1];rfl⟩
   rw[List.length_eq_zero_iff.1 (Nat.le_zero.1 hc)]at h4
   cases h4
  exact⟨hr,hfin listed a w hsz hr hI⟩
 | succ fuel ih =>
  intro listed a w hsz hc hI
  refine⟨fun hr=>hfin listed a w hsz hr hI,fun i hi=>?_⟩
  obtain⟨h1,o,h2,h3⟩:=mem_ready.1 hi
  have hlt:i<l.length:=by simpa using(Array.getElem?_eq_some_iff.1 h2).1
  have hlo:l[i]?=some o:=by simpa using h2
  have hsi:i<listed.size:=by omega
  have hg:=(plain_at l 0 i o hp hlo).1
  have hw:Region.wanted o (yielded l.toArray a.tmps)=true:=by simp[Region.wanted,hg]
  have hstep:=steps_at l 0 i o hs hlo (fun j=>listed.getD j false) a w (by rw[Nat.zero_add];simpa[hsi] using h1) (pre_of _ fun e he hb=>h3 e (by simpa using he) hb) hI
  rw[Nat.zero_add]at hstep
  have heq:upd (fun j=>listed.getD j false) i=fun j=>(listed.setIfInBounds i true).getD j false:=by
   funext j
   unfold upd
   by_cases hj:j=i
   ·subst hj
    rw[if_pos rfl]
    simp[Array.getElem?_setIfInBounds,hsi]
   ·rw[if_neg hj]
    simp[Array.getElem?_setIfInBounds,Ne.symm hj]
  rw[heq]at hstep
  unfold wpOp
  rw[h2]
  simp only[hw,if_true]
  refine .inl (Oper.wp_mono (fun a' w' h=>ih _ a' w' (by simpa using hsz) ?_ h) hstep)
  have:=filt_set listed i h1 (List.range l.length) List.nodup_range (List.mem_range.2 hlt)
  unfold left at hc ⊢
  omega
theorem wp_region_inv {id:Nat} {a:Act} {w:World} (Inv:(Nat→Bool)→Act→World→Prop) (hm:P.follows .mixedOrders=true) (hp:plainOps 0 l=true) (h0:Inv (fun _=>false) a w.drew)
  (hs:Steps P Q Inv 0 l) (hf:∀ L a w,(∀ i,i<l.length→L i=true)→Inv L a w→Q .normal a w):(Code.region id l.toArray true).wp P Q a w:=by
 refine wp_region_any hm (wpAny_inv hp hs hf _ _ _ _ (by simp) ?_ ?_)
 ·have:(left l.length (Array.replicate l.toArray.size false)).length≤(List.range l.length).length:=List.length_filter_le _ _
  simpa using this
 ·have e:(fun i=>(Array.replicate l.toArray.size false).getD i false)=fun _=>false:=by
   funext i
   by_cases h:i<l.length
   ·simp[h]
   ·simp[h]
  rw[e]
  exact h0
end
def putL (a:Act) (l:List (Nat×Value)):Act:=l.foldl (fun x p=>x.put (some p.1) p.2) a
theorem put_size (a:Act) (d:Option Tmp) (v:Value):(a.put d v).tmps.size=a.tmps.size:=by
 cases d<;>simp[Act.put]
theorem eval_put_same (a:Act) (d:Nat) (v:Value) (h:d<a.tmps.size):(a.put (some d) v).eval (.tmp d)=v:=by
 simp[Act.put,Act.eval,h]
theorem eval_put_other (a:Act) (d t:Nat) (v:Value) (h:t≠d):(a.put (some d) v).eval (.tmp t)=a.eval (.tmp t):=by
 simp[Act.put,Act.eval,Array.getElem?_setIfInBounds,Ne.symm h]
theorem eval_old (a:Act) (t:Nat):∀ l:List (Nat×Value),(l.map Prod.fst).contains t=false→(putL a l).eval (.tmp t)=a.eval (.tmp t):=by
 intro l
 induction l generalizing a with
 | nil=>intro _;rfl
 | cons p l ih =>
  intro h
  simp only[List.map_cons,List.contains_cons,Bool.or_eq_false_iff]at h
  exact(ih _ h.2).trans (eval_put_other a p.1 t p.2 (by simpa using h.1))
def slotB (t:Nat):List (Nat×Value)→Option Value
 | []=>none
 | p::l=>if p.1=t then(if (l.map Prod.fst).contains t then slotB t l else some p.2) else slotB t l
theorem eval_new (a:Act) (t:Nat) (v:Value) (ht:t<a.tmps.size):∀ l:List (Nat×Value),slotB t l=some v→(putL a l).eval (.tmp t)=v:=by
 intro l
 induction l generalizing a with
 | nil=>intro h;cases h
 | cons p l ih =>
  intro h
  rw[slotB]at h
  split at h
  ·rename_i hp
   split at h
   ·exact ih _ (by rw[put_size];exact ht) h
   ·rename_i hc
    simp only[Option.some.injEq]at h
    subst h
    refine(eval_old _ t l (by simpa using hc)).trans ?_
    rw[← hp]
    exact eval_put_same a p.1 p.2 (by rw[hp];exact ht)
  ·exact ih _ (by rw[put_size];exact ht) h
def setL (d:Nat) (v:Value):List (Nat×Value)→List (Nat×Value)
 | []=> []
 | p::l=>(if p.1=d then(d,v) else p)::setL d v l
theorem putL_off (a:Act) (d:Nat) (v:Value):∀ l:List (Nat×Value),(l.map Prod.fst).contains d=false→(putL a l).put (some d) v=putL (a.put (some d) v) l:=by
 intro l
 induction l generalizing a with
 | nil=>intro _;rfl
 | cons p l ih =>
  intro h
  simp only[List.map_cons,List.contains_cons,Bool.or_eq_false_iff]at h
  refine(ih _ h.2).trans ?_
  have hne:d≠p.1:=by simpa using h.1
  show putL ((a.put (some p.1) p.2).put (some d) v) l=putL ((a.put (some d) v).put (some p.1) p.2) l
  congr 1
  simp only[Act.put]
  congr 1
  exact Array.setIfInBounds_comm _ _ (Ne.symm hne)
theorem setL_off (d:Nat) (v:Value):∀ l:List (Nat×Value),(l.map Prod.fst).contains d=false→setL d v l=l
 | [],_=>rfl
 | p::l,h=>by
  simp only[List.map_cons,List.contains_cons,Bool.or_eq_false_iff]at h
  have hne:d≠p.1:=by simpa using h.1
  rw[setL,if_neg (Ne.symm hne),setL_off d v l h.2]
theorem put_put (a:Act) (d:Nat) (u v:Value):(a.put (some d) u).put (some d) v=a.put (some d) v:=by
 simp[Act.put,Array.setIfInBounds_setIfInBounds]
theorem putL_put (d:Nat) (v:Value) (l:List (Nat×Value)) (hn:(l.map Prod.fst).Nodup) (h:(l.map Prod.fst).contains d=true) (a:Act):(putL a l).put (some d) v=putL a (setL d v l):=by
 induction l generalizing a with
 | nil=>simp at h
 | cons p l ih =>
  rw[List.map_cons,List.nodup_cons]at hn
  by_cases hp:p.1=d
  ·have hc:(l.map Prod.fst).contains d=false:=by
    rw[← hp]
    simpa using hn.1
   have e1:(putL a (p::l))=putL (a.put (some p.1) p.2) l:=rfl
   have e2:setL d v (p::l)=(d,v)::setL d v l:=by rw[setL,if_pos hp]
   rw[e1,e2,putL_off _ d v l hc,setL_off d v l hc,hp,put_put]
   rfl
  ·have e2:setL d v (p::l)=p::setL d v l:=by rw[setL,if_neg hp]
   rw[e2]
   exact ih hn.2 (by simp only[List.map_cons,List.contains_cons]at h;simpa[Ne.symm hp] using h) _
def ndB:List Nat→Bool
 | []=>true
 | x::l=> !l.contains x && ndB l
theorem nd_of:∀ l:List Nat,ndB l=true→l.Nodup
 | [],_=>List.nodup_nil
 | x::l,h=>by
  simp only[ndB,Bool.and_eq_true,Bool.not_eq_true']at h
  exact List.nodup_cons.2 ⟨by simpa using h.1,nd_of l h.2⟩
theorem putL_setB (d:Nat) (v:Value) (l:List (Nat×Value)) (hn:ndB (l.map Prod.fst)=true) (h:(l.map Prod.fst).contains d=true) (a:Act):(putL a l).put (some d) v=putL a (setL d v l):=putL_put d v l (nd_of _ hn) h a
theorem putL_self (a:Act):∀ ds:List Nat,a=putL a (ds.map fun d=>(d,a.eval (.tmp d)))
 | []=>rfl
 | d::ds=>by
  have e:a.put (some d) (a.eval (.tmp d))=a:=by
   simp only[Act.put,Act.eval]
   congr 1
   apply Array.ext_getElem?
   intro i
   rw[Array.getElem?_setIfInBounds]
   split
   ·rename_i h
    subst h
    split
    ·rename_i h2;simp[h2]
    ·rename_i h2;rw[Array.getElem?_eq_none (by omega)]
   ·rfl
  show a=putL (a.put (some d) (a.eval (.tmp d))) (ds.map fun d=>(d,a.eval (.tmp d)))
  rw[e]
  exact putL_self a ds
def Olds (a:Act):List (Nat×Value)→Prop
 | []=>True
 | p::l=>a.eval (.tmp p.1)=p.2∧Olds a l
theorem pre_mem {L:Nat→Bool}:∀ {l:List Edge},Pre L l→∀ (j:Nat),((l.filter fun e=>Region.binds .any e).map Edge.on).contains j=true→L j=true
 | [],_,_,h=>by simp at h
 | e::es,hp,j,h=>by
  cases hb:Region.binds .any e with
  | true =>
   rw[List.filter_cons_of_pos (by simpa using hb),List.map_cons,List.contains_cons,Bool.or_eq_true]at h
   rcases h with h|h
   ·have e1:j=e.on:=beq_iff_eq.1 h
    rw[e1]
    exact hp.1 hb
   ·exact pre_mem hp.2 j h
  | false =>
   rw[List.filter_cons_of_neg (by simp[hb])]at h
   exact pre_mem hp.2 j h
theorem steps_nil {P:Program} {Q:Exit→Act→World→Prop} {Inv:(Nat→Bool)→Act→World→Prop} {k:Nat}:Steps P Q Inv k []:=True.intro
theorem steps_cons {P:Program} {Q:Exit→Act→World→Prop} {Inv:(Nat→Bool)→Act→World→Prop} {k:Nat} {o:Oper} {os:List Oper} (h:∀ L a w K,(∀ a' w',Inv (upd L k) a' w'→K a' w')→L k=false→Pre L o.after.toList→Inv L a w→o.wp P a w K Q) (hs:Steps P Q Inv (k+1) os):Steps P Q Inv k (o::os) :=
 ⟨fun L a w h1 h2 h3=>h L a w _ (fun _ _ h=>h) h1 h2 h3,hs⟩
theorem wp_region_at {P:Program} {Q:Exit→Act→World→Prop} {l:List Oper} {id:Nat} {a:Act} {w:World} (olds:List (Nat×Value)) (n:Nat) (Inv:Act→(Nat→Bool)→Act→World→Prop) (hm:P.follows .mixedOrders=true) (hp:plainOps 0 l=true)
  (hn:a.tmps.size=n) (ho:Olds a olds) (h0:∀ a0,a0.tmps.size=n→Inv a0 (fun _=>false) a0 w.drew) (hs:∀ a0 Q',a0.tmps.size=n→Olds a0 olds→Steps P Q' (Inv a0) 0 l) (hf:∀ L a' w',(∀ i,i<l.length→L i=true)→Inv a L a' w'→Q .normal a' w'):(Code.region id l.toArray true).wp P Q a w :=
 wp_region_inv (Inv a) hm hp (h0 a hn) (hs a Q hn ho) hf
end Go.Proofs.YtgiogemkomgkhaaGreatDoor.Ri
namespace Go.Proofs.YtgiogemkomgkhaaGreatDoor.Ri
open Go
def dstIs (l:List Oper) (j t:Nat):Bool:=match l[j]? with|some o=>o.dst == some t|none=>false
def aftB (l:List Oper) (i j:Nat):Bool:=match l[i]? with|some o=>o.after.toList.any fun e=>Region.binds .any e && e.on == j|none=>false
def noSel (o:Oper):Bool:=match o.op with | .select _ _=>false|_=>true
def opdB (l:List Oper) (n i:Nat) (x:Operand):Bool:=match x with
 | .tmp t=>(List.range n).all fun j=> !dstIs l j t || (decide (j<i) && aftB l i j) || (decide (i<j) && aftB l j i) || j == i
 | _=>true
def mixB (l:List Oper):Bool :=
 plainOps 0 l && l.all noSel && ((List.range l.length).all fun i=>(List.range l.length).all fun j=>i == j || (match l[i]?,l[j]? with|some a,some b=>a.dst.isNone || a.dst != b.dst|_,_=>true)) &&
 ((List.range l.length).all fun i=>match l[i]? with|some o=>o.op.operands.toList.all (opdB l l.length i)|none=>true)
def pickV (l:List Oper) (vs:List Value) (S:Nat→Bool) (t:Nat) (v0:Value):Value:=match (List.range l.length).find? (fun j=>S j && dstIs l j t) with
 | some j=>vs.getD j undef
 | none=>v0
def actOf (l:List Oper) (vs:List Value) (S:Nat→Bool) (a:Act):Act:= { a with tmps:=a.tmps.mapIdx fun t v0=>pickV l vs S t v0 }
section
variable {l:List Oper} {vs:List Value}
theorem mix_plain (h:mixB l=true):plainOps 0 l=true:=by
 unfold mixB at h
 simp only[Bool.and_eq_true]at h
 exact h.1.1.1
theorem mix_sel (h:mixB l=true) (i:Nat) (o:Oper) (ho:l[i]?=some o):∀ cs b,o.op≠ .select cs b:=by
 unfold mixB at h
 simp only[Bool.and_eq_true]at h
 have:=List.all_eq_true.1 h.1.1.2 o (List.mem_of_getElem? ho)
 intro cs b e
 unfold noSel at this
 rw[e]at this
 cases this
theorem mix_one (h:mixB l=true) {i j t:Nat} (hi:dstIs l i t=true) (hj:dstIs l j t=true):i=j:=by
 unfold mixB at h
 simp only[Bool.and_eq_true]at h
 unfold dstIs at hi hj
 cases hoi:l[i]? with
 | none=>rw[hoi]at hi;cases hi
 | some a =>
  cases hoj:l[j]? with
  | none=>rw[hoj]at hj;cases hj
  | some b =>
   rw[hoi]at hi
   rw[hoj]at hj
   have li:i<l.length:=(List.getElem?_eq_some_iff.1 hoi).1
   have lj:j<l.length:=(List.getElem?_eq_some_iff.1 hoj).1
   have h2:=List.all_eq_true.1 (List.all_eq_true.1 h.1.2 i (List.mem_range.2 li)) j (List.mem_range.2 lj)
   rw[hoi,hoj]at h2
   simp only[Bool.or_eq_true,beq_iff_eq,bne_iff_ne]at h2 hi hj
   rcases h2 with h2|h2|h2
   ·exact h2
   ·rw[hi]at h2;cases h2
   ·rw[hi,hj]at h2;exact absurd rfl h2
theorem mix_opd (h:mixB l=true) {i:Nat} {o:Oper} (ho:l[i]?=some o) {t:Nat} (hx:Operand.tmp t∈o.op.operands) {j:Nat} (hj:dstIs l j t=true) :
  (j<i∧aftB l i j=true)∨(i<j∧aftB l j i=true)∨j=i:=by
 unfold mixB at h
 simp only[Bool.and_eq_true]at h
 have li:i<l.length:=(List.getElem?_eq_some_iff.1 ho).1
 have h2:=List.all_eq_true.1 h.2 i (List.mem_range.2 li)
 rw[ho]at h2
 have h3:=List.all_eq_true.1 h2 (.tmp t) (by simpa using hx)
 have lj:j<l.length:=by
  unfold dstIs at hj
  cases hoj:l[j]? with
  | none=>rw[hoj]at hj;cases hj
  | some b=>exact(List.getElem?_eq_some_iff.1 hoj).1
 have h4:=List.all_eq_true.1 h3 j (List.mem_range.2 lj)
 rw[hj]at h4
 simp only[Bool.not_true,Bool.false_or,Bool.or_eq_true,Bool.and_eq_true,decide_eq_true_eq,beq_iff_eq]at h4
 rcases h4 with(h4|h4)|h4
 ·exact .inl h4
 ·exact .inr (.inl h4)
 ·exact .inr (.inr h4)
theorem dst_lt {j t:Nat} (hj:dstIs l j t=true):j<l.length:=by
 unfold dstIs at hj
 cases hoj:l[j]? with
 | none=>rw[hoj]at hj;cases hj
 | some b=>exact(List.getElem?_eq_some_iff.1 hoj).1
theorem pick_some (h:mixB l=true) {S:Nat→Bool} {j t:Nat} (hj:dstIs l j t=true) (hS:S j=true) (v0:Value):pickV l vs S t v0=vs.getD j undef:=by
 unfold pickV
 cases hf:(List.range l.length).find? (fun j=>S j && dstIs l j t) with
 | none =>
  have:=List.find?_eq_none.1 hf j (List.mem_range.2 (dst_lt hj))
  simp[hS,hj]at this
 | some k =>
  have:=List.find?_some hf
  simp only[Bool.and_eq_true]at this
  rw[mix_one h this.2 hj]
theorem pick_none {S:Nat→Bool} {t:Nat} (hn:∀ j,dstIs l j t=true→S j=false) (v0:Value):pickV l vs S t v0=v0:=by
 unfold pickV
 cases hf:(List.range l.length).find? (fun j=>S j && dstIs l j t) with
 | none=>rfl
 | some k =>
  have:=List.find?_some hf
  simp only[Bool.and_eq_true]at this
  rw[hn k this.2]at this
  cases this.1
theorem pick_congr (h:mixB l=true) {S S':Nat→Bool} {t:Nat} (hs:∀ j,dstIs l j t=true→S j=S' j) (v0:Value):pickV l vs S t v0=pickV l vs S' t v0:=by
 by_cases hx:∃ j,dstIs l j t=true
 ·obtain⟨j,hj⟩:=hx
  cases hS:S j with
  | true=>rw[pick_some h hj hS,pick_some h hj ((hs j hj).symm.trans hS)]
  | false =>
   rw[pick_none (fun k hk=>by rw[mix_one h hk hj];exact hS),pick_none (fun k hk=>by rw[mix_one h hk hj,← hs j hj];exact hS)]
 ·rw[pick_none (fun k hk=>absurd ⟨k,hk⟩ hx),pick_none (fun k hk=>absurd ⟨k,hk⟩ hx)]
theorem act_congr (h:mixB l=true) {S S':Nat→Bool} (a:Act) (hs:∀ j,j<l.length→S j=S' j):actOf l vs S a=actOf l vs S' a:=by
 unfold actOf
 congr 1
 apply Array.ext_getElem?
 intro t
 rw[Array.getElem?_mapIdx,Array.getElem?_mapIdx]
 cases a.tmps[t]? with
 | none=>rfl
 | some v0=>exact congrArg some (pick_congr h (fun j hj=>hs j (dst_lt hj)) v0)
theorem act_start (a:Act):actOf l vs (fun _=>false) a=a:=by
 unfold actOf
 have:(a.tmps.mapIdx fun t v0=>pickV l vs (fun _=>false) t v0)=a.tmps:=by
  apply Array.ext_getElem?
  intro t
  rw[Array.getElem?_mapIdx]
  cases a.tmps[t]? with
  | none=>rfl
  | some v0=>exact congrArg some (pick_none (fun _ _=>rfl) v0)
 rw[this]
theorem act_put (h:mixB l=true) {S:Nat→Bool} (a:Act) {i:Nat} {o:Oper} (ho:l[i]?=some o) (hS:S i=false) (v:Value) (hv:∀ d,o.dst=some d→d<a.tmps.size→v=vs.getD i undef) :
  (actOf l vs S a).put o.dst v=actOf l vs (upd S i) a:=by
 have key:∀ t,dstIs l i t=false→∀ v0,pickV l vs S t v0=pickV l vs (upd S i) t v0:=fun t ht v0=>pick_congr h (fun j hj=>by
  rw[upd_other]
  intro e
  rw[e,ht]at hj
  cases hj) v0
 cases hd:o.dst with
 | none =>
  simp only[Act.put]
  unfold actOf
  congr 1
  apply Array.ext_getElem?
  intro t
  rw[Array.getElem?_mapIdx,Array.getElem?_mapIdx]
  cases a.tmps[t]? with
  | none=>rfl
  | some v0=>exact congrArg some (key t (by unfold dstIs;rw[ho];simp[hd]) v0)
 | some d =>
  simp only[Act.put]
  unfold actOf
  simp only
  congr 1
  apply Array.ext_getElem?
  intro t
  rw[Array.getElem?_setIfInBounds,Array.getElem?_mapIdx,Array.getElem?_mapIdx,Array.size_mapIdx]
  by_cases hdt:d=t
  ·subst hdt
   rw[if_pos rfl]
   by_cases hlt:d<a.tmps.size
   ·rw[if_pos hlt,Array.getElem?_eq_getElem hlt]
    have hdi:dstIs l i d=true:=by unfold dstIs;rw[ho];simp[hd]
    rw[hv d hd hlt]
    exact congrArg some (pick_some h hdi (upd_same S i) _).symm
   ·rw[if_neg hlt,Array.getElem?_eq_none (Nat.not_lt.1 hlt)]
    rfl
  ·rw[if_neg hdt]
   cases a.tmps[t]? with
   | none=>rfl
   | some v0=>exact congrArg some (key t (by unfold dstIs;rw[ho];simp[hd,hdt]) v0)
theorem act_eval (S:Nat→Bool) (a:Act) (t:Nat):(actOf l vs S a).eval (.tmp t)=match a.tmps[t]? with|some v0=>pickV l vs S t v0|none=>undef:=by
 simp only[Act.eval,actOf,Array.getD_eq_getD_getElem?,Array.getElem?_mapIdx]
 cases a.tmps[t]?<;>rfl
end
def moveTo (P:Program) (d:Option Tmp) (v:Value) (R:World→Prop):Result Next→Prop
 | .ok (.value u) w'=>(d≠none→u=v)∧R w'
 | .ok .skip w'=>(d≠none→v=undef)∧R w'
 | .ok (.enter f args) w'=>Calls P f args w' fun e w''=>∃ u,e= .returned u∧(d≠none→u=v)∧R w''
 | .ok (.row row args) w'=>Rows P row args w' fun u w''=>(d≠none→u=v)∧R w''
 | _=>False
def wpMix (P:Program) (PW:(Nat→Bool)→World→Prop) (K:Act→Prop):Nat→List Oper→Act→Prop
 | _,[],a=>K a
 | i,o::os,a=>∃ v,(∀ L w,L i=false→Pre L o.after.toList→PW L w→moveTo P o.dst v (PW (upd L i)) ((execOp a.eval o).run P w))∧wpMix P PW K (i+1) os (a.put o.dst v)
theorem mix_vals {P:Program} {PW:(Nat→Bool)→World→Prop} {K:Act→Prop}:∀ (os:List Oper) (i:Nat) (a:Act),wpMix P PW K i os a →
  ∃ vs:List Value,vs.length=os.length∧K ((os.zip vs).foldl (fun x p=>x.put p.1.dst p.2) a) ∧
   ∀ k o,os[k]?=some o→∀ L w,L (i+k)=false→Pre L o.after.toList→PW L w→moveTo P o.dst (vs.getD k undef) (PW (upd L (i+k))) ((execOp (((os.zip vs).take k).foldl (fun x p=>x.put p.1.dst p.2) a).eval o).run P w)
 | [],i,a,h=>⟨[],rfl,h,fun k o ho=>by simp at ho⟩
 | o::os,i,a,⟨v,h1,h2⟩=>by
  obtain⟨vs,hl,hk,hs⟩:=mix_vals os (i+1) _ h2
  refine⟨v::vs,by simp[hl],hk,fun k o' ho'=>?_⟩
  cases k with
  | zero =>
   simp only[List.getElem?_cons_zero,Option.some.injEq]at ho'
   subst ho'
   exact h1
  | succ k =>
   have:=hs k o' (by simpa using ho')
   rw[show i+1+k=i+(k+1) by omega]at this
   exact this
theorem fold_act {l:List Oper} {vs:List Value} (h:mixB l=true) (hl:vs.length=l.length) (a:Act):∀ k,k≤l.length→((l.zip vs).take k).foldl (fun x p=>x.put p.1.dst p.2) a=actOf l vs (fun j=>decide (j<k)) a
 | 0,_=>by
  have:(fun j=>decide (j<0))=fun _:Nat=>false:=by funext j;simp
  rw[this,act_start]
  rfl
 | k+1,hk=>by
  have hz:k<(l.zip vs).length:=by rw[List.length_zip];omega
  rw[List.take_succ_eq_append_getElem hz,List.foldl_append,fold_act h hl a k (by omega)]
  have hlk:k<l.length:=by omega
  have hvk:k<vs.length:=by omega
  simp only[List.getElem_zip,List.foldl_cons,List.foldl_nil]
  rw[act_put h a (List.getElem?_eq_getElem hlk) (by simp) _ (fun d _ _=>by rw[List.getD_eq_getElem?_getD,List.getElem?_eq_getElem hvk];rfl)]
  congr 1
  funext j
  unfold upd
  by_cases hj:j=k
  ·subst hj;simp
  ·rw[if_neg hj]
   have:(j<k)=(j<k+1):=by apply propext;omega
   simp only[this]
theorem pre_aft {l:List Oper} {L:Nat→Bool} {i j:Nat} {o:Oper} (ho:l[i]?=some o) (hp:Pre L o.after.toList) (hj:aftB l i j=true):L j=true:=by
 unfold aftB at hj
 rw[ho]at hj
 simp only[List.any_eq_true,Bool.and_eq_true,beq_iff_eq]at hj
 obtain⟨e,he,hb,rfl⟩:=hj
 have:∀ l:List Edge,Pre L l→e∈l→L e.on=true:=by
  intro l
  induction l with
  | nil=>intro _ h;cases h
  | cons x xs ih =>
   intro hp h
   rcases List.mem_cons.1 h with h|h
   ·subst h;exact hp.1 hb
   ·exact ih hp.2 h
 exact this _ hp he
def Closed (l:List Oper) (L:Nat→Bool):Prop:=∀ i j,i<l.length→L i=true→aftB l i j=true→L j=true
theorem wp_region_mix {P:Program} {Q:Exit→Act→World→Prop} {l:List Oper} {id:Nat} {a:Act} {w:World} (PW:(Nat→Bool)→World→Prop) (hm:P.follows .mixedOrders=true) (hB:mixB l=true) (h0:PW (fun _=>false) w.drew)
  (hw:wpMix P PW (fun a'=>∀ L wx,(∀ i,i<l.length→L i=true)→PW L wx→Q .normal a' wx) 0 l a):(Code.region id l.toArray true).wp P Q a w:=by
 obtain⟨vs,hl,hk,hs⟩:=mix_vals l 0 a hw
 have hful:=fold_act hB hl a l.length (Nat.le_refl _)
 rw[List.take_of_length_le (by rw[List.length_zip];omega)]at hful
 rw[hful]at hk
 refine wp_region_inv (fun L a' wx=>a'=actOf l vs L a∧Closed l L∧PW L wx) hm (mix_plain hB) ⟨(act_start a).symm,(fun i j _ h=>(by cases h)),h0⟩ ?_ ?_
 ·have all:∀ (k:Nat),k≤l.length→Steps P Q (fun L a' wx=>a'=actOf l vs L a∧Closed l L∧PW L wx) k (l.drop k):=by
   intro k hk
   obtain⟨d,hd⟩:∃ d,l.length - k=d:=⟨_,rfl⟩
   induction d generalizing k with
   | zero=>rw[List.drop_of_length_le (by omega)];exact steps_nil
   | succ d ih =>
    have hlt:k<l.length:=by omega
    rw[List.drop_eq_getElem_cons hlt]
    refine⟨fun L a' wx hL hP hI=>?_,ih (k+1) (by omega) (by omega)⟩
    obtain⟨rfl,hcl,hpw⟩:=hI
    have ho:l[k]?=some l[k]:=List.getElem?_eq_getElem hlt
    generalize l[k]=o at ho hP
    have h1:=hs k o ho L wx (by rw[Nat.zero_add];exact hL) hP hpw
    rw[Nat.zero_add,fold_act hB hl a k (by omega)]at h1
    have hev:execOp (actOf l vs (fun j=>decide (j<k)) a).eval o=execOp (actOf l vs L a).eval o:=execOp_congr o (mix_sel hB k o ho) (fun x hx=>by
     cases x with
     | tmp t =>
      rw[act_eval,act_eval]
      cases a.tmps[t]? with
      | none=>rfl
      | some v0 =>
       refine pick_congr hB (fun j hj=>?_) v0
       rcases mix_opd hB ho hx hj with⟨h2,h3⟩|⟨h2,h3⟩|h2
       ·rw[pre_aft ho hP h3]
        simpa using h2
       ·cases hLj:L j with
        | true =>
         have:=hcl j k (dst_lt hj) hLj h3
         rw[hL]at this
         cases this
        | false=>simp;omega
       ·rw[h2,hL]
        simp
     | _=>rfl)
    rw[hev]at h1
    have hcl2:Closed l (upd L k):=fun i j hi hLi hij=>by
     by_cases hik:i=k
     ·subst hik
      have:=pre_aft ho hP hij
      by_cases hjk:j=i
      ·rw[hjk];exact upd_same L i
      ·rw[upd_other L i j hjk];exact this
     ·rw[upd_other L k i hik]at hLi
      have:=hcl i j hi hLi hij
      by_cases hjk:j=k
      ·rw[hjk];exact upd_same L k
      ·rw[upd_other L k j hjk];exact this
    have fin:∀ u w',(o.dst≠none→u=vs.getD k undef)→PW (upd L k) w'→(actOf l vs L a).put o.dst u=actOf l vs (upd L k) a∧Closed l (upd L k)∧PW (upd L k) w':=fun u w' hu hw'=>⟨act_put hB a ho hL u (fun _ hd _=>hu (by rw[hd];exact Option.some_ne_none _)),hcl2,hw'⟩
    unfold Oper.wp
    generalize (execOp (actOf l vs L a).eval o).run P wx=r at h1
    cases r with
    | ok n w' =>
     cases n with
     | value u=>exact fin u w' h1.1 h1.2
     | skip=>exact fin undef w' (fun hd=>(h1.1 hd).symm) h1.2
     | enter f args=>exact h1.mono fun e w'' ⟨u,he,hu,hw''⟩=>by subst he;exact fin _ w'' hu hw''
     | row g args=>exact h1.mono fun u w'' ⟨hu,hw''⟩=>fin _ w'' hu hw''
     | _=>exact h1.elim
    | halt x w'=>exact h1.elim
  have:=all 0 (Nat.zero_le _)
  rwa[List.drop_zero]at this
 ·rintro L a' wx hall ⟨rfl,hcl,hpw⟩
  have e:actOf l vs L a=actOf l vs (fun j=>decide (j<l.length)) a:=act_congr hB a (fun j hj=>by rw[hall j hj];simp[hj])
  rw[e]
  exact hk L wx hall hpw
section
variable {P:Program} {PW:(Nat→Bool)→World→Prop} {K:Act→Prop} {i:Nat} {o:Oper} {os:List Oper} {a:Act}
theorem mix_nil (h:K a):wpMix P PW K i [] a:=h
theorem mix_read {U:Type} {f:U→World} {d:Tmp} (hn:Nonempty U) (hU:∀ L w,L i=false→Pre L o.after.toList→PW L w→∃ u,w=f u) (hst:∀ L w,PW L w→PW (upd L i) w) (hd:o.dst=some d) (hs:d<a.tmps.size) (a':Act)
  (h:∀ u (K':Act→Prop),K' a'→o.quiet P a (fun w'=>w'=f u) K') (hk:wpMix P PW K (i+1) os a'):wpMix P PW K i (o::os) a:=by
 have key:∀ u,∃ v,(∀ w,w=f u→o.quietAt P a (fun w'=>w'=f u) w v)∧a.put o.dst v=a':=fun u=>by
  obtain⟨v,h1,h2⟩:=h u (fun x=>x=a') rfl
  exact⟨v,h1,h2⟩
 have hval:∀ v,a.put o.dst v=a'→v=a'.eval (.tmp d):=fun v hv=>by
  rw[← hv,hd,eval_put_same a d v hs]
 refine⟨a'.eval (.tmp d),fun L w hL hP hw=>?_,?_⟩
 ·obtain⟨u,rfl⟩:=hU L w hL hP hw
  obtain⟨v,h1,h2⟩:=key u
  obtain rfl:=hval v h2
  have h3:=h1 (f u) rfl
  unfold Oper.quietAt at h3
  generalize (execOp a.eval o).run P (f u)=r at h3
  cases r with
  | ok n w' =>
   cases n<;>simp only[Oper.quietUpon]at h3
   case value x=>obtain⟨rfl,rfl⟩:=h3;exact⟨fun _=>rfl,hst _ _ hw⟩
   case skip=>obtain⟨rfl,h4⟩:=h3;exact⟨fun _=>h4,hst _ _ hw⟩
   case enter g args=>obtain⟨rfl,h4⟩:=h3;exact h4.mono fun e w'' ⟨he,hw''⟩=>⟨_,he,fun _=>rfl,by rw[hw''];exact hst _ _ hw⟩
  | halt x w'=>simp only[Oper.quietUpon]at h3
 ·obtain⟨u0⟩:=hn
  obtain⟨v,h1,h2⟩:=key u0
  have:=hval v h2
  rw[← this,h2]
  exact hk
theorem mix_move (v:Value) (hs:∀ d,o.dst=some d→d<a.tmps.size)
  (h:∀ L w,L i=false→Pre L o.after.toList→PW L w→∀ K':Act→World→Prop,(∀ w',PW (upd L i) w'→K' (a.put o.dst v) w')→o.wp P a w K' (fun _ _ _=>False))
  (hk:wpMix P PW K (i+1) os (a.put o.dst v)):wpMix P PW K i (o::os) a:=by
 refine⟨v,fun L w hL hP hw=>?_,hk⟩
 have h1:=h L w hL hP hw (fun a2 w'=>a2=a.put o.dst v∧PW (upd L i) w') (fun w' hw'=>⟨rfl,hw'⟩)
 have hval:∀ u,a.put o.dst u=a.put o.dst v→o.dst≠none→u=v:=fun u hu hd=>by
  cases hx:o.dst with
  | none=>exact absurd hx hd
  | some d =>
   rw[hx]at hu
   rw[← eval_put_same a d u (hs d hx),hu,eval_put_same a d v (hs d hx)]
 unfold Oper.wp at h1
 generalize (execOp a.eval o).run P w=r at h1
 cases r with
 | ok n w' =>
  cases n<;>simp only[Oper.upon]at h1
  case value x=>exact⟨hval x h1.1,h1.2⟩
  case skip=>exact⟨fun hd=>(hval undef h1.1 hd).symm,h1.2⟩
  case enter g args =>
   refine h1.mono fun e w'' he=>?_
   cases e with
   | returned x=>exact⟨x,rfl,hval x he.1,he.2⟩
   | panicked c=>exact he.elim
   | outgrown=>obtain⟨_,_,hx⟩:=he;exact hx.elim
  case row g args=>exact h1.mono fun u w'' hx=>⟨hval u hx.1,hx.2⟩
  case defer d =>
   have h2:=congrArg Act.defers h1.1
   have e1:∀ (b:Act) (x:Option Tmp) (y:Value),(b.put x y).defers=b.defers:=fun b x y=>by cases x<;>rfl
   rw[e1,e1]at h2
   have:=congrArg List.length h2
   simp at this
 | halt x w'=>cases x<;>simp only[Oper.upon]at h1
end
section
variable {P:Program} {PW:(Nat→Bool)→World→Prop} {K:Act→Prop} {i:Nat} {o:Oper} {os:List Oper} {a:Act}
theorem mix_moved (v:Value) (hs:∀ d,o.dst=some d→d<a.tmps.size)
 (h:∀ L w,L i=false→Pre L o.after.toList→PW L w→∀ K':Act→World→Prop,(∀ w',PW (upd L i) w'→K' (a.put o.dst v) w')→o.wp P a w K' (fun _ _ _=>False))
 {a':Act} (ha:a.put o.dst v=a') (hk:wpMix P PW K (i+1) os a'):wpMix P PW K i (o::os) a:=mix_move v hs h (ha▸hk)
end
open Go.RowKit
theorem worlds (PW:(Nat→Bool)→World→Prop):∃ (U:Type) (f:U→World),(∀ L w,PW L w→∃ u,w=f u)∧∀ u,∃ L,PW L (f u) :=
 ⟨{p:(Nat→Bool)×World // PW p.1 p.2},fun u=>u.1.2,fun L w h=>⟨⟨(L,w),h⟩,rfl⟩,fun u=>⟨u.1.1,u.2⟩⟩
theorem one_stable {G:Bool→World→Prop} {p:Nat} {i:Nat} (h:decide (i=p)=false):∀ L w,G (L p) w→G (upd L i p) w:=fun L w hw=>by
 rw[upd_other L i p (by have:=of_decide_eq_false h;omega)]
 exact hw
theorem two_stable {G:Bool→Bool→World→Prop} {p q:Nat} {i:Nat} (h:(decide (i=p) || decide (i=q))=false):∀ L w,G (L p) (L q) w→G (upd L i p) (upd L i q) w:=fun L w hw=>by
 rw[Bool.or_eq_false_iff]at h
 rw[upd_other L i p (by have:=of_decide_eq_false h.1;omega),upd_other L i q (by have:=of_decide_eq_false h.2;omega)]
 exact hw
def makeG (w:World) (Z V:Array Value) (T:Nat):Bool→Bool→World→Prop
 | false,false,wx=>wx=w.drew
 | true,false,wx=>wx=w.drew.alloc (.cells Z T)
 | true,true,wx=>wx=w.drew.alloc (.cells V T)
 | false,true,_=>False
theorem makeG_below {w:World} {Z V:Array Value} {T:Nat} {a b:Bool} {wx:World} (h:makeG w Z V T a b wx):Below w.heap.size w wx:=by
 have h0:Below w.heap.size w w.drew:=(Below.refl _ _).drew
 cases a<;>cases b
 ·exact(show wx=_ from h)▸h0
 ·exact h.elim
 ·exact(show wx=_ from h)▸h0.alloc h0.size _
 ·exact(show wx=_ from h)▸h0.alloc h0.size _
theorem makeG_start {w:World} {Z V:Array Value} {T:Nat} {wx:World} {b:Bool} (h:makeG w Z V T false b wx):b=false∧wx=w.drew:=by
 cases b
 ·exact⟨rfl,h⟩
 ·exact h.elim
theorem wp_append_run {P:Program} {w w':World} {o:Oper} {a:Act} {K:Act→World→Prop} {Q:Exit→Act→World→Prop} (s x:Operand) (t:TypeId) (ho:o.op= .call { callee:= .builtin .append,args:= #[s,x],argTypes:= #[t,t] })
  {v u v':Value} (hs:a.eval s=v) (hx:a.eval x=u) (hr:(Builtin.append_ #[t,t] o.type #[v,u]).run P w= .ok v' w') (h:K (a.put o.dst v') w'):o.wp P a w K Q:=by
 unfold Oper.wp execOp
 simp only[ho,resolve,invoke,builtin,Sem.run_bind,Sem.run_pure,Result.andThen_ok,List.map_toArray,List.map_cons,List.map_nil,hs,hx,hr]
 exact h
theorem wp_store_run {P:Program} {w w':World} {o:Oper} {a:Act} {K:Act→World→Prop} {Q:Exit→Act→World→Prop} (t:TypeId) (x y:Operand) (ho:o.op= .store t x y)
  {p v:Value} (hx:a.eval x=p) (hy:a.eval y=v) (hr:(Instr.storeAt t p v).run P w= .ok () w') (h:K (a.put o.dst undef) w'):o.wp P a w K Q:=by
 unfold Oper.wp execOp
 simp only[ho,Sem.run_bind,Sem.run_pure,Result.andThen_ok,hx,hy,hr]
 exact h
end Go.Proofs.YtgiogemkomgkhaaGreatDoor.Ri
namespace Go.Proofs.YtgiogemkomgkhaaGreatDoor.Ri
open Go
def updX (X:Nat→Value) (i:Nat) (v:Value):Nat→Value:=fun j=>if j=i then v else X j
theorem updX_same (X:Nat→Value) (i:Nat) (v:Value):updX X i v i=v:=if_pos rfl
theorem updX_other (X:Nat→Value) (i j:Nat) (v:Value) (h:j≠i):updX X i v j=X j:=if_neg h
def freeB (l:List Oper) (fr:List Nat):Bool :=
 (List.range l.length).all fun i=>fr.contains i || (match l[i]? with|some o=>o.dst.isSome && o.op.operands.toList.all (fun x=>match x with | .tmp t=>(List.range l.length).all fun j=> !dstIs l j t || !fr.contains j || decide (i<j)|_=>true)|none=>true)
def freeTo (P:Program) (R:Value→World→Prop):Result Next→Prop
 | .ok (.value u) w'=>R u w'
 | .ok .skip w'=>R undef w'
 | .ok (.enter f args) w'=>Calls P f args w' fun e w''=>∃ u,e= .returned u∧R u w''
 | .ok (.row row args) w'=>Rows P row args w' fun u w''=>R u w''
 | _=>False
def wpFree (P:Program) {U:Type} (f:U→World) (PW:(Nat→Bool)→(Nat→Value)→World→Prop) (fr:List Nat) (X:Nat→Value) (K:Act→Prop):Nat→List Oper→Act→Prop
 | _,[],a=>K a
 | i,o::os,a =>
  (fr.contains i=false∧∃ v,(∀ u,(execOp a.eval o).run P (f u)= .ok (.value v) (f u))∧wpFree P f PW fr X K (i+1) os (a.put o.dst v)) ∨
  (fr.contains i=true∧(∀ L w,L i=false→Pre L o.after.toList→PW L X w→freeTo P (fun u w'=>PW (upd L i) (updX X i u) w') ((execOp a.eval o).run P w))∧wpFree P f PW fr X K (i+1) os (a.put o.dst (X i)))
def ObF (P:Program) {U:Type} (f:U→World) (PW:(Nat→Bool)→(Nat→Value)→World→Prop) (fr:List Nat) (X:Nat→Value) (i:Nat) (o:Oper) (v:Value) (a:Act):Prop :=
 (fr.contains i=false∧∀ u,(execOp a.eval o).run P (f u)= .ok (.value v) (f u)) ∨
 (fr.contains i=true∧v=X i∧∀ L w,L i=false→Pre L o.after.toList→PW L X w→freeTo P (fun u w'=>PW (upd L i) (updX X i u) w') ((execOp a.eval o).run P w))
section
variable {P:Program} {U:Type} {f:U→World} {PW:(Nat→Bool)→(Nat→Value)→World→Prop} {fr:List Nat} {l:List Oper}
theorem free_vals {X:Nat→Value} {K:Act→Prop}:∀ (os:List Oper) (i:Nat) (a:Act),wpFree P f PW fr X K i os a →
  ∃ vs:List Value,vs.length=os.length∧K ((os.zip vs).foldl (fun x p=>x.put p.1.dst p.2) a) ∧
   ∀ k o,os[k]?=some o→ObF P f PW fr X (i+k) o (vs.getD k undef) (((os.zip vs).take k).foldl (fun x p=>x.put p.1.dst p.2) a)
 | [],i,a,h=>⟨[],rfl,h,fun k o ho=>by simp at ho⟩
 | o::os,i,a,h=>by
  have fin:∀ v,ObF P f PW fr X i o v a→wpFree P f PW fr X K (i+1) os (a.put o.dst v)→∃ vs:List Value,vs.length=(o::os).length∧K (((o::os).zip vs).foldl (fun x p=>x.put p.1.dst p.2) a) ∧
    ∀ k o',(o::os)[k]?=some o'→ObF P f PW fr X (i+k) o' (vs.getD k undef) ((((o::os).zip vs).take k).foldl (fun x p=>x.put p.1.dst p.2) a):=fun v h1 h2=>by
   obtain⟨vs,hl,hk,hs⟩:=free_vals os (i+1) _ h2
   refine⟨v::vs,by simp[hl],hk,fun k o' ho'=>?_⟩
   cases k with
   | zero =>
    simp only[List.getElem?_cons_zero,Option.some.injEq]at ho'
    subst ho'
    exact h1
   | succ k =>
    have:=hs k o' (by simpa using ho')
    rw[show i+1+k=i+(k+1) by omega]at this
    exact this
  rcases h with⟨hf,v,h1,h2⟩|⟨hf,h1,h2⟩
  ·exact fin v (.inl ⟨hf,h1⟩) h2
  ·exact fin (X i) (.inr ⟨hf,rfl,h1⟩) h2
theorem free_opd {i:Nat} {o:Oper} (h:freeB l fr=true) (ho:l[i]?=some o) (hq:fr.contains i=false) {t:Nat} (hx:Operand.tmp t∈o.op.operands) {j:Nat} (hj:dstIs l j t=true) (hji:j<i):fr.contains j=false:=by
 unfold freeB at h
 have h2:=List.all_eq_true.1 h i (List.mem_range.2 (List.getElem?_eq_some_iff.1 ho).1)
 rw[hq,ho]at h2
 simp only[Bool.false_or,Bool.and_eq_true]at h2
 have h3:=List.all_eq_true.1 h2.2 (.tmp t) (by simpa using hx)
 have h4:=List.all_eq_true.1 h3 j (List.mem_range.2 (dst_lt hj))
 rw[hj]at h4
 simp only[Bool.not_true,Bool.false_or,Bool.or_eq_true,Bool.not_eq_true',decide_eq_true_eq]at h4
 rcases h4 with h4|h4
 ·exact h4
 ·omega
theorem eval_congr (hB:mixB l=true) {vs vs':List Value} {S S':Nat→Bool} (a:Act) {o:Oper} {i:Nat} (ho:l[i]?=some o) (h:∀ t,Operand.tmp t∈o.op.operands→∀ j,dstIs l j t=true→S j=S' j∧(S j=true→vs.getD j undef=vs'.getD j undef)) :
  execOp (actOf l vs S a).eval o=execOp (actOf l vs' S' a).eval o:=execOp_congr o (mix_sel hB i o ho) (fun x hx=>by
 cases x with
 | tmp t =>
  rw[act_eval,act_eval]
  cases a.tmps[t]? with
  | none=>rfl
  | some v0 =>
   by_cases he:∃ j,dstIs l j t=true
   ·obtain⟨j,hj⟩:=he
    obtain⟨h1,h2⟩:=h t hx j hj
    cases hS:S j with
    | true =>
     show pickV l vs S t v0=pickV l vs' S' t v0
     rw[pick_some hB hj hS,pick_some hB hj (h1.symm.trans hS),h2 hS]
    | false =>
     show pickV l vs S t v0=pickV l vs' S' t v0
     rw[pick_none (fun k hk=>by rw[mix_one hB hk hj];exact hS),pick_none (fun k hk=>by rw[mix_one hB hk hj];exact h1.symm.trans hS)]
   ·show pickV l vs S t v0=pickV l vs' S' t v0
    rw[pick_none (fun k hk=>absurd ⟨k,hk⟩ he),pick_none (fun k hk=>absurd ⟨k,hk⟩ he)]
 | _=>rfl)
theorem wp_region_free {Q:Exit→Act→World→Prop} {id:Nat} {a:Act} {w:World} (fr:List Nat) (PW:(Nat→Bool)→(Nat→Value)→World→Prop) (hm:P.follows .mixedOrders=true) (hB:(mixB l && freeB l fr)=true) (hne:Nonempty U) (hU:∀ L X w,PW L X w→∃ u,w=f u)
  (hst:∀ i,fr.contains i=false→∀ L X w,PW L X w→PW (upd L i) X w) (X0:Nat→Value) (h0:PW (fun _=>false) X0 w.drew)
  (hw:∀ X,wpFree P f PW fr X (fun a'=>∀ L wx,(∀ i,i<l.length→L i=true)→PW L X wx→Q .normal a' wx) 0 l a):(Code.region id l.toArray true).wp P Q a w:=by
 rw[Bool.and_eq_true]at hB
 obtain⟨hB,hFB⟩:=hB
 have hv:∀ X,∃ vs:List Value,vs.length=l.length∧(∀ L wx,(∀ i,i<l.length→L i=true)→PW L X wx→Q .normal (actOf l vs (fun j=>decide (j<l.length)) a) wx)∧∀ k o,l[k]?=some o→ObF P f PW fr X k o (vs.getD k undef) (actOf l vs (fun j=>decide (j<k)) a):=fun X=>by
  obtain⟨vs,hl,hk,hs⟩:=free_vals l 0 a (hw X)
  have hful:=fold_act hB hl a l.length (Nat.le_refl _)
  rw[List.take_of_length_le (by rw[List.length_zip];omega)]at hful
  rw[hful]at hk
  refine⟨vs,hl,hk,fun k o ho=>?_⟩
  have:=hs k o ho
  rw[Nat.zero_add,fold_act hB hl a k (by have:=(List.getElem?_eq_some_iff.1 ho).1;omega)]at this
  exact this
 let V:(Nat→Value)→List Value:=fun X=>(hv X).choose
 have hV:∀ X,(V X).length=l.length∧(∀ L wx,(∀ i,i<l.length→L i=true)→PW L X wx→Q .normal (actOf l (V X) (fun j=>decide (j<l.length)) a) wx)∧∀ k o,l[k]?=some o→ObF P f PW fr X k o ((V X).getD k undef) (actOf l (V X) (fun j=>decide (j<k)) a):=fun X=>(hv X).choose_spec
 obtain⟨u0⟩:=hne
 have hquiet:∀ (X X':Nat→Value) (k:Nat),k<l.length→fr.contains k=false→(V X).getD k undef=(V X').getD k undef:=by
  intro X X' k
  induction k using Nat.strongRecOn with
  | ind k ih =>
   intro hk hq
   have ho:l[k]?=some l[k]:=List.getElem?_eq_getElem hk
   have h1:=(hV X).2.2 k _ ho
   have h2:=(hV X').2.2 k _ ho
   rcases h1 with⟨-,h1⟩|⟨h1, -⟩
   ·rcases h2 with⟨-,h2⟩|⟨h2, -⟩
    ·have e:=eval_congr hB (vs:=V X) (vs':=V X') (S:=fun j=>decide (j<k)) (S':=fun j=>decide (j<k)) a ho (fun t ht j hj=>⟨rfl,fun hjk=>ih j (by simpa using hjk) (dst_lt hj) (free_opd hFB ho hq ht hj (by simpa using hjk))⟩)
     have h3:=h1 u0
     rw[e,h2 u0]at h3
     simp only[Result.ok.injEq,Next.value.injEq,and_true]at h3
     exact h3.symm
    ·rw[hq]at h2;cases h2
   ·rw[hq]at h1;cases h1
 refine wp_region_inv (fun L a' wx=>∃ X,a'=actOf l (V X) L a∧Closed l L∧PW L X wx) hm (mix_plain hB) ⟨X0,(act_start a).symm,(fun i j _ h=>(by cases h)),h0⟩ ?_ ?_
 ·have all:∀ (k:Nat),k≤l.length→Steps P Q (fun L a' wx=>∃ X,a'=actOf l (V X) L a∧Closed l L∧PW L X wx) k (l.drop k):=by
   intro k hk
   obtain⟨d,hd⟩:∃ d,l.length - k=d:=⟨_,rfl⟩
   induction d generalizing k with
   | zero=>rw[List.drop_of_length_le (by omega)];exact steps_nil
   | succ d ih =>
    have hlt:k<l.length:=by omega
    rw[List.drop_eq_getElem_cons hlt]
    refine⟨fun L a' wx hL hP hI=>?_,ih (k+1) (by omega) (by omega)⟩
    obtain⟨X,rfl,hcl,hpw⟩:=hI
    have ho:l[k]?=some l[k]:=List.getElem?_eq_getElem hlt
    generalize l[k]=o at ho hP
    have h1:=(hV X).2.2 k o ho
    have hev:execOp (actOf l (V X) (fun j=>decide (j<k)) a).eval o=execOp (actOf l (V X) L a).eval o:=eval_congr hB a ho (fun t hx j hj=>by
     refine⟨?_,fun _=>rfl⟩
     rcases mix_opd hB ho hx hj with⟨h2,h3⟩|⟨h2,h3⟩|h2
     ·rw[pre_aft ho hP h3]
      simpa using h2
     ·cases hLj:L j with
      | true =>
       have:=hcl j k (dst_lt hj) hLj h3
       rw[hL]at this
       cases this
      | false=>simp;omega
     ·rw[h2,hL]
      simp)
    have hcl2:Closed l (upd L k):=fun i j hi hLi hij=>by
     by_cases hik:i=k
     ·subst hik
      have:=pre_aft ho hP hij
      by_cases hjk:j=i
      ·rw[hjk];exact upd_same L i
      ·rw[upd_other L i j hjk];exact this
     ·rw[upd_other L k i hik]at hLi
      have:=hcl i j hi hLi hij
      by_cases hjk:j=k
      ·rw[hjk];exact upd_same L k
      ·rw[upd_other L k j hjk];exact this
    unfold Oper.wp
    rcases h1 with⟨hq,h1⟩|⟨hq,hx,h1⟩
    ·obtain⟨u,rfl⟩:=hU L X wx hpw
     rw[← hev,h1 u]
     exact⟨X,act_put hB a ho hL _ (fun _ _ _=>rfl),hcl2,hst k hq L X _ hpw⟩
    ·have h2:=h1 L wx hL hP hpw
     rw[hev]at h2
     have fin:∀ u w',PW (upd L k) (updX X k u) w'→∃ X',(actOf l (V X) L a).put o.dst u=actOf l (V X') (upd L k) a∧Closed l (upd L k)∧PW (upd L k) X' w':=fun u w' hw'=>by
      refine⟨updX X k u,?_,hcl2,hw'⟩
      have hsame:actOf l (V X) L a=actOf l (V (updX X k u)) L a:=by
       unfold actOf
       congr 1
       apply Array.ext_getElem?
       intro t
       rw[Array.getElem?_mapIdx,Array.getElem?_mapIdx]
       cases a.tmps[t]? with
       | none=>rfl
       | some v0 =>
        refine congrArg some ?_
        show pickV l (V X) L t v0=pickV l (V (updX X k u)) L t v0
        by_cases he:∃ j,dstIs l j t=true
        ·obtain⟨j,hj⟩:=he
         cases hLj:L j with
         | false=>rw[pick_none (fun i hi=>by rw[mix_one hB hi hj];exact hLj),pick_none (fun i hi=>by rw[mix_one hB hi hj];exact hLj)]
         | true =>
          rw[pick_some hB hj hLj,pick_some hB hj hLj]
          have hjl:=dst_lt hj
          cases hfj:fr.contains j with
          | false=>exact hquiet X _ j hjl hfj
          | true =>
           have hjk:j≠k:=fun e=>by rw[e,hL]at hLj;cases hLj
           have ho2:l[j]?=some l[j]:=List.getElem?_eq_getElem hjl
           rcases (hV X).2.2 j _ ho2 with⟨h3, -⟩|⟨-,h3, -⟩
           ·rw[hfj]at h3;cases h3
           ·rcases (hV (updX X k u)).2.2 j _ ho2 with⟨h4, -⟩|⟨-,h4, -⟩
            ·rw[hfj]at h4;cases h4
            ·rw[h3,h4,updX_other X k j u hjk]
        ·rw[pick_none (fun i hi=>absurd ⟨i,hi⟩ he),pick_none (fun i hi=>absurd ⟨i,hi⟩ he)]
      rw[hsame]
      refine act_put hB a ho hL u (fun _ _ _=>?_)
      rcases (hV (updX X k u)).2.2 k o ho with⟨h3, -⟩|⟨-,h3, -⟩
      ·rw[hq]at h3;cases h3
      ·rw[h3,updX_same]
     generalize (execOp (actOf l (V X) L a).eval o).run P wx=r at h2
     cases r with
     | ok n w' =>
      cases n with
      | value u=>exact fin u w' h2
      | skip=>exact fin undef w' h2
      | enter g args=>exact h2.mono fun e w'' ⟨u,he,hw''⟩=>by subst he;exact fin _ w'' hw''
      | row g args=>exact h2.mono fun u w'' hw''=>fin _ w'' hw''
      | _=>exact h2.elim
     | halt x w'=>exact h2.elim
  have:=all 0 (Nat.zero_le _)
  rwa[List.drop_zero]at this
 ·rintro L a' wx hall ⟨X,rfl,hcl,hpw⟩
  have e:actOf l (V X) L a=actOf l (V X) (fun j=>decide (j<l.length)) a:=act_congr hB a (fun j hj=>by rw[hall j hj];simp[hj])
  rw[e]
  exact(hV X).2.1 L wx hall hpw
end
def Vals (s:Sem Next):Prop:=∀ P w n w',s.run P w= .ok n w'→∃ v,n= .value v
theorem vals_v (s:Sem Value):Vals (do pure (.value (← s))):=fun P w n w' h=>by
 simp only[Sem.run_bind,Sem.run_pure]at h
 cases hs:s.run P w with
 | ok x w2=>rw[hs]at h;simp only[Result.andThen_ok,Result.ok.injEq]at h;exact⟨x,h.1.symm⟩
 | halt x w2=>rw[hs]at h;simp[Result.andThen]at h
theorem vals_bind {α:Type} (s:Sem α) (g:α→Sem Next) (hg:∀ x,Vals (g x)):Vals (s >>= g):=fun P w n w' h=>by
 simp only[Sem.run_bind]at h
 cases hs:s.run P w with
 | ok x w2=>rw[hs]at h;exact hg x P w2 n w' h
 | halt x w2=>rw[hs]at h;simp[Result.andThen]at h
theorem vals_pure (x:Value):Vals (pure (.value x)):=fun P w n w' h=>by
 simp only[Sem.run_pure,Result.ok.injEq]at h
 exact⟨x,h.1.symm⟩
def plainOp:Op→Bool
 | .move _ | .assign _ | .pick _ _ _ | .build _ _ | .load _ _ | .nilCheck _ | .binOp _ _ _ _ _ | .unOp _ _ _ | .convert _ _ _ | .slice _ _ _ _ _ | .fieldAddr _ _ _ | .field _ _ _ | .indexAddr _ _ _ | .index _ _ _ | .extract _ _=>true
 | .call c=>match c.callee with | .builtin b=>(match b with | .len | .cap | .min | .max=>true|_=>false)|_=>false
 | _=>false
theorem vals_gop (v:Value):Vals (goPanic v):=fun P w n w' h=>by
 have h2:(goPanic v:Sem Next).run P w= .halt (.panic v) w:=rfl
 rw[h2]at h
 cases h
theorem vals_panic:Vals (runtimePanic .nilDeref):=by
 unfold runtimePanic
 exact vals_bind _ _ (fun p=>vals_gop _)
theorem vals_of (ρ:Operand→Value) (o:Oper) (h:plainOp o.op=true):Vals (execOp ρ o):=by
 obtain⟨dst,op,type,pos,after,guard⟩:=o
 cases op with
 | nilCheck x =>
  simp only[execOp]
  repeat' split
  all_goals first
   | exact vals_panic
   | exact vals_pure _
   | (refine vals_bind _ _ (fun _=>vals_bind _ _ (fun _=>?_));split;exact vals_bind _ _ (fun _=>vals_pure _);exact vals_pure _)
 | call c =>
  obtain⟨callee,args,ats⟩:=c
  cases callee with
  | builtin b =>
   cases b<;>simp only[plainOp]at h<;>first|(cases h;done)|skip
   ·exact vals_v (Builtin.cap_ ats type (args.map ρ))
   ·exact vals_v (Builtin.len_ ats type (args.map ρ))
   ·exact vals_v (Builtin.max_ ats type (args.map ρ))
   ·exact vals_v (Builtin.min_ ats type (args.map ρ))
  | _=>cases h
 | _ =>
  simp only[plainOp]at h
  first
   | (cases h;done)
   | (simp only[execOp];first|exact vals_v _|exact vals_pure _|exact vals_bind _ _ (fun _=>vals_pure _))
section
variable {P:Program} {U:Type} {f:U→World} {PW:(Nat→Bool)→(Nat→Value)→World→Prop} {fr:List Nat} {X:Nat→Value} {K:Act→Prop} {i:Nat} {o:Oper} {os:List Oper} {a:Act}
theorem free_nil (h:K a):wpFree P f PW fr X K i [] a:=h
theorem free_read {d:Tmp} (hn:Nonempty U) (hq:fr.contains i=false) (hp:plainOp o.op=true) (hd:o.dst=some d) (hs:d<a.tmps.size) (a':Act)
  (h:∀ u (K':Act→Prop),K' a'→o.quiet P a (fun w'=>w'=f u) K') (hk:wpFree P f PW fr X K (i+1) os a'):wpFree P f PW fr X K i (o::os) a:=by
 have key:∀ u,∃ v,(∀ w,w=f u→o.quietAt P a (fun w'=>w'=f u) w v)∧a.put o.dst v=a':=fun u=>by
  obtain⟨v,h1,h2⟩:=h u (fun x=>x=a') rfl
  exact⟨v,h1,h2⟩
 have hval:∀ v,a.put o.dst v=a'→v=a'.eval (.tmp d):=fun v hv=>by
  rw[← hv,hd,eval_put_same a d v hs]
 refine .inl ⟨hq,a'.eval (.tmp d),fun u=>?_,?_⟩
 ·obtain⟨v,h1,h2⟩:=key u
  obtain rfl:=hval v h2
  have h3:=h1 (f u) rfl
  unfold Oper.quietAt at h3
  have h4:=vals_of a.eval o hp P (f u)
  generalize (execOp a.eval o).run P (f u)=r at h3 h4
  cases r with
  | ok n w' =>
   obtain⟨x,rfl⟩:=h4 n w' rfl
   simp only[Oper.quietUpon]at h3
   obtain⟨rfl,rfl⟩:=h3
   rfl
  | halt x w'=>simp only[Oper.quietUpon]at h3
 ·obtain⟨u0⟩:=hn
  obtain⟨v,h1,h2⟩:=key u0
  have:=hval v h2
  rw[← this,h2]
  exact hk
theorem free_move (hq:fr.contains i=true) (hs:∀ d,o.dst=some d→d<a.tmps.size) (hx:o.dst=none→∀ L X w u,PW L X w→PW L (updX X i u) w)
  (h:∀ L w,L i=false→Pre L o.after.toList→PW L X w→∀ K':Act→World→Prop,(∀ u w',PW (upd L i) (updX X i u) w'→K' (a.put o.dst u) w')→o.wp P a w K' (fun _ _ _=>False))
  {a':Act} (ha:a.put o.dst (X i)=a') (hk:wpFree P f PW fr X K (i+1) os a'):wpFree P f PW fr X K i (o::os) a:=by
 refine .inr ⟨hq,fun L w hL hP hw=>?_,ha▸hk⟩
 have h1:=h L w hL hP hw (fun a2 w'=>∃ u,a2=a.put o.dst u∧PW (upd L i) (updX X i u) w') (fun u w' hw'=>⟨u,rfl,hw'⟩)
 have hval:∀ x w',(∃ u,a.put o.dst x=a.put o.dst u∧PW (upd L i) (updX X i u) w')→PW (upd L i) (updX X i x) w':=fun x w' ⟨u,hu,hw'⟩=>by
  cases hd:o.dst with
  | none =>
   have h2:=hx hd _ _ _ x hw'
   have e:updX (updX X i u) i x=updX X i x:=by funext j;unfold updX;by_cases hj:j=i<;>simp[hj]
   rwa[e]at h2
  | some d =>
   rw[hd]at hu
   have e:x=u:=by rw[← eval_put_same a d x (hs d hd),hu,eval_put_same a d u (hs d hd)]
   rw[e]
   exact hw'
 unfold Oper.wp at h1
 generalize (execOp a.eval o).run P w=r at h1
 cases r with
 | ok n w' =>
  cases n<;>simp only[Oper.upon]at h1
  case value x=>exact hval x w' h1
  case skip=>exact hval undef w' h1
  case enter g args =>
   refine h1.mono fun e w'' he=>?_
   cases e with
   | returned x=>exact⟨x,rfl,hval x _ he⟩
   | panicked c=>exact he.elim
   | outgrown=>obtain⟨_,_,hx⟩:=he;exact hx.elim
  case row g args=>exact h1.mono fun u w'' hx=>hval u _ hx
  case defer d =>
   obtain⟨u,h2,_⟩:=h1
   have h3:=congrArg Act.defers h2
   have e1:∀ (b:Act) (x:Option Tmp) (y:Value),(b.put x y).defers=b.defers:=fun b x y=>by cases x<;>rfl
   rw[e1,e1]at h3
   have:=congrArg List.length h3
   simp at this
 | halt x w'=>cases x<;>simp only[Oper.upon]at h1
end
end Go.Proofs.YtgiogemkomgkhaaGreatDoor.Ri
