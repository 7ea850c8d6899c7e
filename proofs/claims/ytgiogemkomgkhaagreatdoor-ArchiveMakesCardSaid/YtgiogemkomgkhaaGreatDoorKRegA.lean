/-
  The worlds on the way through a region that stores into fields of one block, and calls what adds memory.
-/
import Derived.Test.YtgiogemkomgkhaaGreatDoorKReg
import Derived.RangeFuncBox
set_option linter.unusedVariables false
set_option linter.unusedSimpArgs false
namespace Go.Proofs.YtgiogemkomgkhaaGreatDoor.Ri
open Go Go.RowKit
def wpAll (P:Program) (PW:(Nat→Bool)→(Nat→Value)→World→Prop) (fr:List Nat) (K:((Nat→Value)→Act)→Prop):Nat→List Oper→((Nat→Value)→Act)→Prop
 | _,[],A=>K A
 | i,o::os,A =>
  (fr.contains i=false∧∃ v,(∀ X L w,L i=false→Pre L o.after.toList→PW L X w→moveTo P o.dst v (fun w'=>PW (upd L i) X w') ((execOp (A X).eval o).run P w))∧wpAll P PW fr K (i+1) os (fun X=>(A X).put o.dst v)) ∨
  (fr.contains i=true∧(∀ X L w,L i=false→Pre L o.after.toList→PW L X w→freeTo P (fun u w'=>PW (upd L i) (updX X i u) w') ((execOp (A X).eval o).run P w))∧wpAll P PW fr K (i+1) os (fun X=>(A X).put o.dst (X i)))
def ObA (P:Program) (PW:(Nat→Bool)→(Nat→Value)→World→Prop) (fr:List Nat) (i:Nat) (o:Oper) (v:Value) (A:(Nat→Value)→Act):Prop :=
 (fr.contains i=false∧∀ X L w,L i=false→Pre L o.after.toList→PW L X w→moveTo P o.dst v (fun w'=>PW (upd L i) X w') ((execOp (A X).eval o).run P w)) ∨
 (fr.contains i=true∧∀ X L w,L i=false→Pre L o.after.toList→PW L X w→freeTo P (fun u w'=>PW (upd L i) (updX X i u) w') ((execOp (A X).eval o).run P w))
def VX (fr:List Nat) (X:Nat→Value):Nat→List Value→List Value
 | _,[]=> []
 | i,v::vs=>(if fr.contains i=true then X i else v)::VX fr X (i+1) vs
theorem vx_len (fr:List Nat) (X:Nat→Value):∀ (vs:List Value) (i:Nat),(VX fr X i vs).length=vs.length
 | [],_=>rfl
 | v::vs,i=>by simp[VX,vx_len fr X vs]
theorem vx_get (fr:List Nat) (X:Nat→Value):∀ (vs:List Value) (i k:Nat),k<vs.length→(VX fr X i vs).getD k undef=if fr.contains (i+k)=true then X (i+k) else vs.getD k undef
 | [],_,_,h=>by simp at h
 | v::vs,i,0,h=>by simp[VX]
 | v::vs,i,k+1,h=>by
  have:=vx_get fr X vs (i+1) k (by simpa using h)
  rw[show i+1+k=i+(k+1) by omega]at this
  simpa[VX] using this
section
variable {P:Program} {PW:(Nat→Bool)→(Nat→Value)→World→Prop} {fr:List Nat} {l:List Oper}
theorem all_vals {K:((Nat→Value)→Act)→Prop}:∀ (os:List Oper) (i:Nat) (A:(Nat→Value)→Act),wpAll P PW fr K i os A →
  ∃ vs:List Value,vs.length=os.length∧K (fun X=>(os.zip (VX fr X i vs)).foldl (fun x p=>x.put p.1.dst p.2) (A X)) ∧
   ∀ k o,os[k]?=some o→ObA P PW fr (i+k) o (vs.getD k undef) (fun X=>((os.zip (VX fr X i vs)).take k).foldl (fun x p=>x.put p.1.dst p.2) (A X))
 | [],i,A,h=>⟨[],rfl,h,fun k o ho=>by simp at ho⟩
 | o::os,i,A,h=>by
  have fin:∀ v,ObA P PW fr i o v A→wpAll P PW fr K (i+1) os (fun X=>(A X).put o.dst (if fr.contains i=true then X i else v))→∃ vs:List Value,vs.length=(o::os).length∧K (fun X=>((o::os).zip (VX fr X i vs)).foldl (fun x p=>x.put p.1.dst p.2) (A X)) ∧
    ∀ k o',(o::os)[k]?=some o'→ObA P PW fr (i+k) o' (vs.getD k undef) (fun X=>(((o::os).zip (VX fr X i vs)).take k).foldl (fun x p=>x.put p.1.dst p.2) (A X)):=fun v h1 h2=>by
   obtain⟨vs,hl,hk,hs⟩:=all_vals os (i+1) _ h2
   refine⟨v::vs,by simp[hl],hk,fun k o' ho'=>?_⟩
   cases k with
   | zero =>
    simp only[List.getElem?_cons_zero,Option.some.injEq]at ho'
    subst ho'
    exact h1
   | succ k =>
    have:=hs k o' (by simpa using ho')
    rw[show i+1+k=i+(k+1) by omega]at this
    exact this
  rcases h with⟨hf,v,h1,h2⟩|⟨hf,h1,h2⟩
  ·refine fin v (.inl ⟨hf,h1⟩) ?_
   have e:(fun X:Nat→Value=>(A X).put o.dst (if fr.contains i=true then X i else v))=fun X=>(A X).put o.dst v:=by
    funext X
    rw[if_neg (by rw[hf];exact Bool.false_ne_true)]
   rw[e]
   exact h2
  ·refine fin undef (.inr ⟨hf,h1⟩) ?_
   have e:(fun X:Nat→Value=>(A X).put o.dst (if fr.contains i=true then X i else undef))=fun X=>(A X).put o.dst (X i):=by
    funext X
    rw[if_pos hf]
   rw[e]
   exact h2
theorem wp_region_all {Q:Exit→Act→World→Prop} {id:Nat} {a:Act} {w:World} (fr:List Nat) (PW:(Nat→Bool)→(Nat→Value)→World→Prop) (hm:P.follows .mixedOrders=true) (hB:mixB l=true) (X0:Nat→Value) (h0:PW (fun _=>false) X0 w.drew)
  (hw:wpAll P PW fr (fun A=>∀ X L wx,(∀ i,i<l.length→L i=true)→PW L X wx→Q .normal (A X) wx) 0 l (fun _=>a)):(Code.region id l.toArray true).wp P Q a w:=by
 obtain⟨vs,hl,hk,hs⟩:=all_vals l 0 (fun _=>a) hw
 have hlX:∀ X,(VX fr X 0 vs).length=l.length:=fun X=>(vx_len fr X vs 0).trans hl
 have hget:∀ X k,k<l.length→(VX fr X 0 vs).getD k undef=if fr.contains k=true then X k else vs.getD k undef:=fun X k hk=>by
  have:=vx_get fr X vs 0 k (by omega)
  rwa[Nat.zero_add]at this
 have hful:∀ X,(l.zip (VX fr X 0 vs)).foldl (fun x p=>x.put p.1.dst p.2) a=actOf l (VX fr X 0 vs) (fun j=>decide (j<l.length)) a:=fun X=>by
  have:=fold_act hB (hlX X) a l.length (Nat.le_refl _)
  rwa[List.take_of_length_le (by rw[List.length_zip,hlX];omega)]at this
 have hob:∀ k o,l[k]?=some o→ObA P PW fr k o (vs.getD k undef) (fun X=>actOf l (VX fr X 0 vs) (fun j=>decide (j<k)) a):=fun k o ho=>by
  have h1:=hs k o ho
  rw[Nat.zero_add]at h1
  have e:(fun X=>((l.zip (VX fr X 0 vs)).take k).foldl (fun x p=>x.put p.1.dst p.2) a)=fun X=>actOf l (VX fr X 0 vs) (fun j=>decide (j<k)) a:=by
   funext X
   exact fold_act hB (hlX X) a k (by have:=(List.getElem?_eq_some_iff.1 ho).1;omega)
  rwa[e]at h1
 refine wp_region_inv (fun L a' wx=>∃ X,a'=actOf l (VX fr X 0 vs) L a∧Closed l L∧PW L X wx) hm (mix_plain hB) ⟨X0,(act_start a).symm,(fun i j _ h=>(by cases h)),h0⟩ ?_ ?_
 ·have all:∀ (k:Nat),k≤l.length→Steps P Q (fun L a' wx=>∃ X,a'=actOf l (VX fr X 0 vs) L a∧Closed l L∧PW L X wx) k (l.drop k):=by
   intro k hk
   obtain⟨d,hd⟩:∃ d,l.length - k=d:=⟨_,rfl⟩
   induction d generalizing k with
   | zero=>rw[List.drop_of_length_le (by omega)];exact steps_nil
   | succ d ih =>
    have hlt:k<l.length:=by omega
    rw[List.drop_eq_getElem_cons hlt]
    refine⟨fun L a' wx hL hP hI=>?_,ih (k+1) (by omega) (by omega)⟩
    obtain⟨X,rfl,hcl,hpw⟩:=hI
    have ho:l[k]?=some l[k]:=List.getElem?_eq_getElem hlt
    generalize l[k]=o at ho hP
    have h1:=hob k o ho
    have hev:execOp (actOf l (VX fr X 0 vs) (fun j=>decide (j<k)) a).eval o=execOp (actOf l (VX fr X 0 vs) L a).eval o:=eval_congr hB a ho (fun t hx j hj=>by
     refine⟨?_,fun _=>rfl⟩
     rcases mix_opd hB ho hx hj with⟨h2,h3⟩|⟨h2,h3⟩|h2
     ·rw[pre_aft ho hP h3]
      simpa using h2
     ·cases hLj:L j with
      | true =>
       have:=hcl j k (dst_lt hj) hLj h3
       rw[hL]at this
       cases this
      | false=>simp;omega
     ·rw[h2,hL]
      simp)
    have hcl2:Closed l (upd L k):=fun i j hi hLi hij=>by
     by_cases hik:i=k
     ·subst hik
      have:=pre_aft ho hP hij
      by_cases hjk:j=i
      ·rw[hjk];exact upd_same L i
      ·rw[upd_other L i j hjk];exact this
     ·rw[upd_other L k i hik]at hLi
      have:=hcl i j hi hLi hij
      by_cases hjk:j=k
      ·rw[hjk];exact upd_same L k
      ·rw[upd_other L k j hjk];exact this
    unfold Oper.wp
    rcases h1 with⟨hq,h1⟩|⟨hq,h1⟩
    ·have h2:=h1 X L wx hL hP hpw
     rw[hev]at h2
     have fin:∀ u w',(o.dst≠none→u=vs.getD k undef)→PW (upd L k) X w'→∃ X',(actOf l (VX fr X 0 vs) L a).put o.dst u=actOf l (VX fr X' 0 vs) (upd L k) a∧Closed l (upd L k)∧PW (upd L k) X' w':=fun u w' hu hw' =>
      ⟨X,act_put hB a ho hL u (fun _ hd _=>by rw[hget X k hlt,if_neg (by rw[hq];exact Bool.false_ne_true)];exact hu (by rw[hd];exact Option.some_ne_none _)),hcl2,hw'⟩
     generalize (execOp (actOf l (VX fr X 0 vs) L a).eval o).run P wx=r at h2
     cases r with
     | ok n w' =>
      cases n with
      | value u=>exact fin u w' h2.1 h2.2
      | skip=>exact fin undef w' (fun hd=>(h2.1 hd).symm) h2.2
      | enter f args=>exact h2.mono fun e w'' ⟨u,he,hu,hw''⟩=>by subst he;exact fin _ w'' hu hw''
      | row g args=>exact h2.mono fun u w'' ⟨hu,hw''⟩=>fin _ w'' hu hw''
      | _=>exact h2.elim
     | halt x w'=>exact h2.elim
    ·have h2:=h1 X L wx hL hP hpw
     rw[hev]at h2
     have fin:∀ u w',PW (upd L k) (updX X k u) w'→∃ X',(actOf l (VX fr X 0 vs) L a).put o.dst u=actOf l (VX fr X' 0 vs) (upd L k) a∧Closed l (upd L k)∧PW (upd L k) X' w':=fun u w' hw'=>by
      refine⟨updX X k u,?_,hcl2,hw'⟩
      have hsame:actOf l (VX fr X 0 vs) L a=actOf l (VX fr (updX X k u) 0 vs) L a:=by
       unfold actOf
       congr 1
       apply Array.ext_getElem?
       intro t
       rw[Array.getElem?_mapIdx,Array.getElem?_mapIdx]
       cases a.tmps[t]? with
       | none=>rfl
       | some v0 =>
        refine congrArg some ?_
        show pickV l (VX fr X 0 vs) L t v0=pickV l (VX fr (updX X k u) 0 vs) L t v0
        by_cases he:∃ j,dstIs l j t=true
        ·obtain⟨j,hj⟩:=he
         cases hLj:L j with
         | false=>rw[pick_none (fun i hi=>by rw[mix_one hB hi hj];exact hLj),pick_none (fun i hi=>by rw[mix_one hB hi hj];exact hLj)]
         | true =>
          rw[pick_some hB hj hLj,pick_some hB hj hLj,hget _ j (dst_lt hj),hget _ j (dst_lt hj),updX_other X k j u (fun e=>by rw[e,hL]at hLj;cases hLj)]
        ·rw[pick_none (fun i hi=>absurd ⟨i,hi⟩ he),pick_none (fun i hi=>absurd ⟨i,hi⟩ he)]
      rw[hsame]
      exact act_put hB a ho hL u (fun _ _ _=>by rw[hget _ k hlt,if_pos hq,updX_same])
     generalize (execOp (actOf l (VX fr X 0 vs) L a).eval o).run P wx=r at h2
     cases r with
     | ok n w' =>
      cases n with
      | value u=>exact fin u w' h2
      | skip=>exact fin undef w' h2
      | enter g args=>exact h2.mono fun e w'' ⟨u,he,hw''⟩=>by subst he;exact fin _ w'' hw''
      | row g args=>exact h2.mono fun u w'' hw''=>fin _ w'' hw''
      | _=>exact h2.elim
     | halt x w'=>exact h2.elim
  have:=all 0 (Nat.zero_le _)
  rwa[List.drop_zero]at this
 ·rintro L a' wx hall ⟨X,rfl,hcl,hpw⟩
  have e:actOf l (VX fr X 0 vs) L a=actOf l (VX fr X 0 vs) (fun j=>decide (j<l.length)) a:=act_congr hB a (fun j hj=>by rw[hall j hj];simp[hj])
  rw[e,← hful X]
  exact hk X L wx hall hpw
end
section
variable {P:Program} {PW:(Nat→Bool)→(Nat→Value)→World→Prop} {fr:List Nat} {K:((Nat→Value)→Act)→Prop} {i:Nat} {o:Oper} {os:List Oper} {A:(Nat→Value)→Act}
theorem all_nil (h:K A):wpAll P PW fr K i [] A:=h
theorem all_quiet {U:(Nat→Bool)×(Nat→Value)→Type} {f:∀ s,U s→World} {d:Tmp} (hne:∃ L X w,PW L X w) (hU:∀ s w,PW s.1 s.2 w→∃ u,w=f s u) (hf:∀ s u,PW s.1 s.2 (f s u)) (hst:∀ L X w,PW L X w→PW (upd L i) X w) (hq:fr.contains i=false) (hd:o.dst=some d) (hs:∀ X,d<(A X).tmps.size) (A':(Nat→Value)→Act)
  (h:∀ s X,Nonempty (U s)→∀ K':Act→Prop,K' (A' X)→o.quiet P (A X) (fun w'=>∃ u,w'=f s u) K') (hv:∀ X Y,(A' X).eval (.tmp d)=(A' Y).eval (.tmp d)) (hk:wpAll P PW fr K (i+1) os A'):wpAll P PW fr K i (o::os) A:=by
 have key:∀ s X,Nonempty (U s)→∃ v,(∀ w,(∃ u,w=f s u)→o.quietAt P (A X) (fun w'=>∃ u,w'=f s u) w v)∧(A X).put o.dst v=A' X:=fun s X hn=>by
  obtain⟨v,h1,h2⟩:=h s X hn (fun x=>x=A' X) rfl
  exact⟨v,h1,h2⟩
 let X0:Nat→Value:=fun _=>undef
 have hval:∀ X v,(A X).put o.dst v=A' X→v=(A' X0).eval (.tmp d):=fun X v hv2=>by
  rw[← hv X X0,← hv2,hd,eval_put_same (A X) d v (hs X)]
 refine .inl ⟨hq,(A' X0).eval (.tmp d),fun X L w hL hP hw=>?_,?_⟩
 ·obtain⟨u,rfl⟩:=hU (L,X) w hw
  obtain⟨v,h1,h2⟩:=key (L,X) X ⟨u⟩
  obtain rfl:=hval X v h2
  have h3:=h1 (f (L,X) u) ⟨u,rfl⟩
  unfold Oper.quietAt at h3
  generalize (execOp (A X).eval o).run P (f (L,X) u)=r at h3
  cases r with
  | ok n w' =>
   cases n<;>simp only[Oper.quietUpon]at h3
   case value x=>obtain⟨rfl,rfl⟩:=h3;exact⟨fun _=>rfl,hst _ _ _ hw⟩
   case skip=>obtain⟨rfl,h4⟩:=h3;exact⟨fun _=>h4,hst _ _ _ hw⟩
   case enter g args=>obtain⟨rfl,h4⟩:=h3;exact h4.mono fun e w'' ⟨he,hw''⟩=>⟨_,he,fun _=>rfl,by obtain⟨u2,rfl⟩:=hw'';exact hst _ _ _ (hf (L,X) u2)⟩
  | halt x w'=>simp only[Oper.quietUpon]at h3
 ·have e:(fun X=>(A X).put o.dst ((A' X0).eval (.tmp d)))=A':=by
   funext X
   obtain⟨L1,X1,w1,hw1⟩:=hne
   obtain⟨u1, -⟩:=hU (L1,X1) w1 hw1
   obtain⟨v,h1,h2⟩:=key (L1,X1) X ⟨u1⟩
   rw[← hval X v h2]
   exact h2
  rw[e]
  exact hk
theorem all_move (v:Value) (hq:fr.contains i=false) (hs:∀ X d,o.dst=some d→d<(A X).tmps.size)
  (h:∀ X L w,L i=false→Pre L o.after.toList→PW L X w→∀ K':Act→World→Prop,(∀ w',PW (upd L i) X w'→K' ((A X).put o.dst v) w')→o.wp P (A X) w K' (fun _ _ _=>False))
  {A':(Nat→Value)→Act} (ha:∀ X,(A X).put o.dst v=A' X) (hk:wpAll P PW fr K (i+1) os A'):wpAll P PW fr K i (o::os) A:=by
 refine .inl ⟨hq,v,fun X L w hL hP hw=>?_,?_⟩
 ·have h1:=h X L w hL hP hw (fun a2 w'=>a2=(A X).put o.dst v∧PW (upd L i) X w') (fun w' hw'=>⟨rfl,hw'⟩)
  have hval:∀ u,(A X).put o.dst u=(A X).put o.dst v→o.dst≠none→u=v:=fun u hu hd=>by
   cases hx:o.dst with
   | none=>exact absurd hx hd
   | some d =>
    rw[hx]at hu
    rw[← eval_put_same (A X) d u (hs X d hx),hu,eval_put_same (A X) d v (hs X d hx)]
  unfold Oper.wp at h1
  generalize (execOp (A X).eval o).run P w=r at h1
  cases r with
  | ok n w' =>
   cases n<;>simp only[Oper.upon]at h1
   case value x=>exact⟨hval x h1.1,h1.2⟩
   case skip=>exact⟨fun hd=>(hval undef h1.1 hd).symm,h1.2⟩
   case enter g args =>
    refine h1.mono fun e w'' he=>?_
    cases e with
    | returned x=>exact⟨x,rfl,hval x he.1,he.2⟩
    | panicked c=>exact he.elim
    | outgrown=>obtain⟨_,_,hx⟩:=he;exact hx.elim
   case row g args=>exact h1.mono fun u w'' hx=>⟨hval u hx.1,hx.2⟩
   case defer d =>
    have h2:=congrArg Act.defers h1.1
    have e1:∀ (b:Act) (x:Option Tmp) (y:Value),(b.put x y).defers=b.defers:=fun b x y=>by cases x<;>rfl
    rw[e1,e1]at h2
    have:=congrArg List.length h2
    simp at this
  | halt x w'=>cases x<;>simp only[Oper.upon]at h1
 ·have e:(fun X=>(A X).put o.dst v)=A':=funext ha
  rw[e]
  exact hk
theorem all_free (hq:fr.contains i=true) (hs:∀ X d,o.dst=some d→d<(A X).tmps.size) (hx:o.dst=none→∀ L X w u,PW L X w→PW L (updX X i u) w)
  (h:∀ X L w,L i=false→Pre L o.after.toList→PW L X w→∀ K':Act→World→Prop,(∀ u w',PW (upd L i) (updX X i u) w'→K' ((A X).put o.dst u) w')→o.wp P (A X) w K' (fun _ _ _=>False))
  {A':(Nat→Value)→Act} (ha:∀ X,(A X).put o.dst (X i)=A' X) (hk:wpAll P PW fr K (i+1) os A'):wpAll P PW fr K i (o::os) A:=by
 refine .inr ⟨hq,fun X L w hL hP hw=>?_,?_⟩
 ·have h1:=h X L w hL hP hw (fun a2 w'=>∃ u,a2=(A X).put o.dst u∧PW (upd L i) (updX X i u) w') (fun u w' hw'=>⟨u,rfl,hw'⟩)
  have hval:∀ x w',(∃ u,(A X).put o.dst x=(A X).put o.dst u∧PW (upd L i) (updX X i u) w')→PW (upd L i) (updX X i x) w':=fun x w' ⟨u,hu,hw'⟩=>by
   cases hd:o.dst with
   | none =>
    have h2:=hx hd _ _ _ x hw'
    have e:updX (updX X i u) i x=updX X i x:=by funext j;unfold updX;by_cases hj:j=i<;>simp[hj]
    rwa[e]at h2
   | some d =>
    rw[hd]at hu
    have e:x=u:=by rw[← eval_put_same (A X) d x (hs X d hd),hu,eval_put_same (A X) d u (hs X d hd)]
    rw[e]
    exact hw'
  unfold Oper.wp at h1
  generalize (execOp (A X).eval o).run P w=r at h1
  cases r with
  | ok n w' =>
   cases n<;>simp only[Oper.upon]at h1
   case value x=>exact hval x w' h1
   case skip=>exact hval undef w' h1
   case enter g args =>
    refine h1.mono fun e w'' he=>?_
    cases e with
    | returned x=>exact⟨x,rfl,hval x _ he⟩
    | panicked c=>exact he.elim
    | outgrown=>obtain⟨_,_,hx⟩:=he;exact hx.elim
   case row g args=>exact h1.mono fun u w'' hx=>hval u _ hx
   case defer d =>
    obtain⟨u,h2,_⟩:=h1
    have h3:=congrArg Act.defers h2
    have e1:∀ (b:Act) (x:Option Tmp) (y:Value),(b.put x y).defers=b.defers:=fun b x y=>by cases x<;>rfl
    rw[e1,e1]at h3
    have:=congrArg List.length h3
    simp at this
  | halt x w'=>cases x<;>simp only[Oper.upon]at h1
 ·have e:(fun X=>(A X).put o.dst (X i))=A':=funext ha
  rw[e]
  exact hk
end
theorem worldsS (PW:(Nat→Bool)→(Nat→Value)→World→Prop):∃ (U:(Nat→Bool)×(Nat→Value)→Type) (f:∀ s,U s→World),(∀ s w,PW s.1 s.2 w→∃ u,w=f s u)∧∀ s u,PW s.1 s.2 (f s u) :=
 ⟨fun s=> {w // PW s.1 s.2 w},fun s u=>u.1,fun s w h=>⟨⟨w,h⟩,rfl⟩,fun s u=>u.2⟩
end Go.Proofs.YtgiogemkomgkhaaGreatDoor.Ri
namespace Go.Proofs.YtgiogemkomgkhaaGreatDoor.Ri
open Go Go.RowKit
def blkOf:Value→Nat
 | .pointer (some a)=>a.block
 | .slice (some a) _ _=>a.block
 | _=>0
structure Mk where
 (p q:Nat)
 (form:Nat→Value)
 (Z V:Array Value)
 (T:Nat)
def ptr (B:Nat):Value:= .pointer (some ⟨B,0,none⟩)
def row (n:Nat) (B:Nat):Value:= .slice (some ⟨B,0,none⟩) n n
def Mk.keys (e:Mk):List Nat:=if e.q=e.p then [e.p] else [e.p,e.q]
def keysOf (es:List Mk) (dv:List (Nat×Nat×(Value→Value))):List Nat:=es.flatMap Mk.keys++dv.map (·.1)
def Mk.cells (e:Mk) (L:Nat→Bool):Array Value:=if e.q=e.p then e.Z else if L e.q=true then e.V else e.Z
structure MkP (w0:World) (es:List Mk) (dv:List (Nat×Nat×(Value→Value))) (L:Nat→Bool) (X:Nat→Value) (wx:World):Prop where
 below:Below w0.heap.size w0 wx
 made:∀ e∈es,L e.p=true→∃ B,X e.p=e.form B∧blkOf (e.form B)=B∧w0.heap.size≤B∧wx.heap[B]?=some (.cells (e.cells L) e.T (0,0))
 apart:∀ e∈es,∀ e'∈es,e.p≠e'.p→L e.p=true→L e'.p=true→blkOf (X e.p)≠blkOf (X e'.p)
 laid:∀ e∈es,L e.q=true→L e.p=true
 der:∀ d∈dv,L d.1=true→L d.2.1=true∧X d.1=d.2.2 (X d.2.1)
section
variable {w0:World} {es:List Mk} {dv:List (Nat×Nat×(Value→Value))} {L:Nat→Bool} {X:Nat→Value} {wx wy:World} {i:Nat}
theorem key_p {e:Mk} (h:e∈es):e.p∈keysOf es dv:=List.mem_append_left _ (List.mem_flatMap.2 ⟨e,h,by unfold Mk.keys;split<;>simp⟩)
theorem key_q {e:Mk} (h:e∈es):e.q∈keysOf es dv:=List.mem_append_left _ (List.mem_flatMap.2 ⟨e,h,by unfold Mk.keys;split<;>simp_all⟩)
theorem key_d {d:Nat×Nat×(Value→Value)} (h:d∈dv):d.1∈keysOf es dv:=List.mem_append_right _ (List.mem_map_of_mem h)
theorem mk_start (w:World):MkP w es dv (fun _=>false) X w.drew :=
 ⟨(Below.refl _ _).drew,(fun _ _ h=>Bool.noConfusion h),(fun _ _ _ _ _ h=>Bool.noConfusion h),(fun _ _ h=>Bool.noConfusion h),(fun _ _ h=>Bool.noConfusion h)⟩
theorem mk_quiet (h:MkP w0 es dv L X wx) (hi:(keysOf es dv).contains i=false) (hd:(dv.map (·.2.1)).contains i=false) (hb:Below wx.heap.size wx wy):MkP w0 es dv (upd L i) X wy:=by
 have hn:∀ j,j∈keysOf es dv→upd L i j=L j:=fun j hj=>upd_other L i j (fun e=>by
  subst e
  rw[List.contains_iff_mem.2 hj]at hi
  cases hi)
 have hn2:∀ d∈dv,upd L i d.2.1=L d.2.1:=fun d hd2=>upd_other L i _ (fun e=>by
  have h3:(dv.map (·.2.1)).contains i=true:=List.contains_iff_mem.2 (by rw[← e];exact List.mem_map_of_mem (f:=(·.2.1)) hd2)
  rw[hd]at h3
  cases h3)
 refine⟨h.below.trans (hb.mono h.below.size),fun e he hp=>?_,fun e he e' he' hne h1 h2=>?_,fun e he hq=>?_,fun d hd2 h1=>?_⟩
 ·rw[hn _ (key_p he)]at hp
  obtain⟨B,h1,h2,h3,h4⟩:=h.made e he hp
  refine⟨B,h1,h2,h3,?_⟩
  have e2:e.cells (upd L i)=e.cells L:=by unfold Mk.cells;rw[hn _ (key_q he)]
  rw[e2,hb.block B ((Array.getElem?_eq_some_iff.1 h4).1)]
  exact h4
 ·rw[hn _ (key_p he)]at h1
  rw[hn _ (key_p he')]at h2
  exact h.apart e he e' he' hne h1 h2
 ·rw[hn _ (key_q he)]at hq
  rw[hn _ (key_p he)]
  exact h.laid e he hq
 ·rw[hn _ (key_d hd2)]at h1
  rw[hn2 d hd2]
  exact h.der d hd2 h1
theorem mk_still (h:MkP w0 es dv L X wx) (hi:(keysOf es dv).contains i=false) (hd:(dv.map (·.2.1)).contains i=false):MkP w0 es dv (upd L i) X wx:=mk_quiet h hi hd (Below.refl _ _)
theorem mk_next (h:MkP w0 es dv L X wx) (hb:Below wx.heap.size wx wy):MkP w0 es dv L X wy:=by
 refine⟨h.below.trans (hb.mono h.below.size),fun e he hp=>?_,h.apart,h.laid,h.der⟩
 obtain⟨B,h1,h2,h3,h4⟩:=h.made e he hp
 exact⟨B,h1,h2,h3,(hb.block B ((Array.getElem?_eq_some_iff.1 h4).1)).trans h4⟩
def mkB (es:List Mk) (dv:List (Nat×Nat×(Value→Value))):Bool:=ndB (keysOf es dv)
theorem nd_flat {α:Type} {f:α→List Nat}:∀ {l:List α},(l.flatMap f).Nodup→∀ a∈l,∀ b∈l,∀ x,x∈f a→x∈f b→a=b
 | [],_,a,ha,_,_,_,_,_=>by cases ha
 | c::l,h,a,ha,b,hb,x,hxa,hxb=>by
  rw[List.flatMap_cons,List.nodup_append]at h
  obtain⟨h1,h2,h3⟩:=h
  rcases List.mem_cons.1 ha with ha'|ha'
  ·rcases List.mem_cons.1 hb with hb'|hb'
   ·rw[ha',hb']
   ·exact absurd rfl (h3 x (ha'▸hxa) x (List.mem_flatMap.2 ⟨b,hb',hxb⟩))
  ·rcases List.mem_cons.1 hb with hb'|hb'
   ·exact absurd rfl (h3 x (hb'▸hxb) x (List.mem_flatMap.2 ⟨a,ha',hxa⟩))
   ·exact nd_flat h2 a ha' b hb' x hxa hxb
theorem keys_p (e:Mk):e.p∈e.keys:=by unfold Mk.keys;split<;>simp
theorem keys_q (e:Mk):e.q∈e.keys:=by unfold Mk.keys;split<;>simp_all
theorem mk_eq (hB:mkB es dv=true) {e e':Mk} (he:e∈es) (he':e'∈es) {x:Nat} (h1:x∈e.keys) (h2:x∈e'.keys):e=e':=by
 have h:=nd_of _ hB
 unfold keysOf at h
 exact nd_flat (List.nodup_append.1 h).1 e he e' he' x h1 h2
theorem mk_der (hB:mkB es dv=true) {e:Mk} (he:e∈es) {x:Nat} (h1:x∈e.keys) {d:Nat×Nat×(Value→Value)} (hd:d∈dv):d.1≠x:=by
 have h:=nd_of _ hB
 unfold keysOf at h
 intro e2
 exact absurd rfl ((List.nodup_append.1 h).2.2 x (List.mem_flatMap.2 ⟨e,he,h1⟩) x (List.mem_map.2 ⟨d,hd,e2⟩))
theorem mk_make (hB:mkB es dv=true) (h:MkP w0 es dv L X wx) {e:Mk} (he:e∈es) (hf:∀ B,blkOf (e.form B)=B) (hp:L e.p=false):MkP w0 es dv (upd L e.p) (updX X e.p (e.form wx.heap.size)) (wx.alloc (.cells e.Z e.T)):=by
 have hqf:e.q≠e.p→L e.q=false:=fun hne=>by
  cases hq:L e.q with
  | false=>rfl
  | true=>rw[h.laid e he hq]at hp;cases hp
 have other:∀ e'∈es,e'.p≠e.p→∀ x∈e'.keys,x≠e.p:=fun e' he' hne x hx hxe=>hne (by rw[mk_eq hB he' he hx (hxe▸keys_p e)])
 refine⟨h.below.alloc h.below.size _,fun e' he' hp'=>?_,fun e1 he1 e2 he2 hne h1 h2=>?_,fun e' he' hq=>?_,fun d hd h1=>?_⟩
 ·by_cases hee:e'.p=e.p
  ·obtain rfl:e'=e:=mk_eq hB he' he (keys_p e') (hee▸keys_p e)
   refine⟨wx.heap.size,updX_same _ _ _,hf _,h.below.size,?_⟩
   have e2:e'.cells (upd L e'.p)=e'.Z:=by
    unfold Mk.cells
    split
    ·rfl
    ·rename_i hne
     rw[upd_other L _ _ hne,hqf hne]
     rfl
   rw[e2]
   exact World.alloc_heap_new _ _
  ·rw[upd_other L _ _ hee]at hp'
   obtain⟨B,h1,h2,h3,h4⟩:=h.made e' he' hp'
   refine⟨B,(updX_other X _ _ _ hee).trans h1,h2,h3,?_⟩
   have e2:e'.cells (upd L e.p)=e'.cells L:=by unfold Mk.cells;rw[upd_other L _ _ (other e' he' hee _ (keys_q e'))]
   rw[e2,Below.heap_alloc _ _ _ ((Array.getElem?_eq_some_iff.1 h4).1)]
   exact h4
 ·have lt:∀ e'∈es,e'.p≠e.p→upd L e.p e'.p=true→blkOf (X e'.p)<wx.heap.size:=fun e' he' hee hp'=>by
   rw[upd_other L _ _ hee]at hp'
   obtain⟨B,g1,g2,g3,g4⟩:=h.made e' he' hp'
   rw[g1,g2]
   exact(Array.getElem?_eq_some_iff.1 g4).1
  by_cases a1:e1.p=e.p
  ·have a2:e2.p≠e.p:=fun hh=>hne (a1.trans hh.symm)
   rw[a1,updX_same,updX_other X _ _ _ a2,hf]
   have:=lt e2 he2 a2 h2
   omega
  ·by_cases a2:e2.p=e.p
   ·rw[a2,updX_same,updX_other X _ _ _ a1,hf]
    have:=lt e1 he1 a1 h1
    omega
   ·rw[updX_other X _ _ _ a1,updX_other X _ _ _ a2]
    rw[upd_other L _ _ a1]at h1
    rw[upd_other L _ _ a2]at h2
    exact h.apart e1 he1 e2 he2 hne h1 h2
 ·by_cases hee:e'.p=e.p
  ·rw[hee];exact upd_same _ _
  ·rw[upd_other L _ _ (other e' he' hee _ (keys_q e'))]at hq
   rw[upd_other L _ _ hee]
   exact h.laid e' he' hq
 ·have hne:=mk_der hB he (keys_p e) hd
  rw[upd_other L _ _ hne]at h1
  obtain⟨h2,h3⟩:=h.der d hd h1
  have hne2:d.2.1≠e.p:=fun hh=>by rw[hh,hp]at h2;cases h2
  rw[upd_other L _ _ hne2,updX_other X _ _ _ hne,updX_other X _ _ _ hne2]
  exact⟨h2,h3⟩
theorem mk_at (h:MkP w0 es dv L X wx) {e:Mk} (he:e∈es) (hp:L e.p=true):∃ B,X e.p=e.form B∧blkOf (e.form B)=B∧w0.heap.size≤B∧wx.heap[B]?=some (.cells (e.cells L) e.T (0,0)):=h.made e he hp
end
end Go.Proofs.YtgiogemkomgkhaaGreatDoor.Ri
namespace Go.Proofs.YtgiogemkomgkhaaGreatDoor.Ri
open Go Go.RowKit
def fldC (cs:Array Value) (L:Nat→Bool):List (Nat×Nat×Value)→Array Value
 | []=>cs
 | e::fs=>if L e.1=true then(fldC cs L fs).setIfInBounds e.2.1 e.2.2 else fldC cs L fs
theorem fld_same (cs:Array Value) (L:Nat→Bool) (i:Nat):∀ fs:List (Nat×Nat×Value),(fs.map (·.1)).contains i=false→fldC cs (upd L i) fs=fldC cs L fs
 | [],_=>rfl
 | e::fs,h=>by
  simp only[List.map_cons,List.contains_cons,Bool.or_eq_false_iff,beq_eq_false_iff_ne]at h
  rw[fldC,fldC,fld_same cs L i fs h.2,upd_other L i _ (fun x=>h.1 x.symm)]
theorem fld_set (cs:Array Value) (L:Nat→Bool):∀ fs:List (Nat×Nat×Value),(fs.map (·.1)).Nodup→(fs.map (·.2.1)).Nodup→∀ e∈fs,L e.1=false→fldC cs (upd L e.1) fs=(fldC cs L fs).setIfInBounds e.2.1 e.2.2
 | [],_,_,e,h,_=>by cases h
 | a::fs,h1,h2,e,he,hL=>by
  rw[List.map_cons,List.nodup_cons]at h1 h2
  rcases List.mem_cons.1 he with rfl|he
  ·rw[fldC,fldC,upd_same,if_pos rfl,if_neg (by rw[hL];exact Bool.false_ne_true),fld_same cs L e.1 fs (by
    cases hc:(fs.map (·.1)).contains e.1 with
    | false=>rfl
    | true=>exact absurd (List.contains_iff_mem.1 hc) h1.1)]
  ·have hne:a.1≠e.1:=fun x=>h1.1 (by rw[x];exact List.mem_map_of_mem he)
   have hne2:a.2.1≠e.2.1:=fun x=>h2.1 (by rw[x];exact List.mem_map_of_mem (f:=(·.2.1)) he)
   rw[fldC,fldC,upd_other L _ _ hne,fld_set cs L fs h1.2 h2.2 e he hL]
   cases hLa:L a.1 with
   | false=>rw[if_neg Bool.false_ne_true,if_neg Bool.false_ne_true]
   | true=>rw[if_pos rfl,if_pos rfl,Array.setIfInBounds_comm _ _ hne2.symm]
theorem fld_size (cs:Array Value) (L:Nat→Bool):∀ fs:List (Nat×Nat×Value),(fldC cs L fs).size=cs.size
 | []=>rfl
 | e::fs=>by rw[fldC];split<;>simp[fld_size cs L fs]
structure FldP (w0:World) (B T:Nat) (cs:Array Value) (fs:List (Nat×Nat×Value)) (L:Nat→Bool) (X:Nat→Value) (wx:World):Prop where
 os:wx.os=w0.os
 tape:wx.tape=w0.tape
 output:wx.output=w0.output
 size:w0.heap.size≤wx.heap.size
 block:∀ k,k<w0.heap.size→k≠B→wx.heap[k]?=w0.heap[k]?
 lt:B<w0.heap.size
 blk:wx.heap[B]?=some (.cells (fldC cs L fs) T (0,0))
section
variable {w0:World} {B T:Nat} {cs:Array Value} {fs:List (Nat×Nat×Value)} {L:Nat→Bool} {X:Nat→Value} {wx wy:World} {i:Nat}
theorem fldC_none (cs:Array Value):∀ fs:List (Nat×Nat×Value),fldC cs (fun _=>false) fs=cs
 | []=>rfl
 | e::fs=>by rw[fldC,if_neg Bool.false_ne_true,fldC_none cs fs]
theorem fld_start {w:World} (h:w.heap[B]?=some (.cells cs T (0,0))):FldP w B T cs fs (fun _=>false) X w.drew :=
 ⟨rfl,rfl,rfl,Nat.le_refl _,(fun _ _ _=>rfl),(Array.getElem?_eq_some_iff.1 h).1,by rw[fldC_none];exact h⟩
theorem fld_next (h:FldP w0 B T cs fs L X wx) (hb:Below wx.heap.size wx wy):FldP w0 B T cs fs L X wy :=
 ⟨hb.os.trans h.os,hb.tape.trans h.tape,hb.output.trans h.output,Nat.le_trans h.size hb.size,(fun k hk hne=>(hb.block k (Nat.lt_of_lt_of_le hk h.size)).trans (h.block k hk hne)),h.lt,(hb.block B (Nat.lt_of_lt_of_le h.lt h.size)).trans h.blk⟩
theorem fld_still (h:FldP w0 B T cs fs L X wx) (hi:(fs.map (·.1)).contains i=false):FldP w0 B T cs fs (upd L i) X wx :=
 ⟨h.os,h.tape,h.output,h.size,h.block,h.lt,by rw[fld_same cs L i fs hi];exact h.blk⟩
theorem fld_store (h1:ndB (fs.map (·.1))=true) (h2:ndB (fs.map (·.2.1))=true) (h:FldP w0 B T cs fs L X wx) {e:Nat×Nat×Value} (he:e∈fs) (hL:L e.1=false):FldP w0 B T cs fs (upd L e.1) X (wx.setCell ⟨B,e.2.1,none⟩ e.2.2) :=
 ⟨h.os,h.tape,h.output,by simpa[World.setCell] using h.size,(fun k hk hne=>(Below.heap_setCell wx ⟨B,e.2.1,none⟩ e.2.2 k hne).trans (h.block k hk hne)),h.lt,by
  rw[fld_set cs L fs (nd_of _ h1) (nd_of _ h2) e he hL]
  exact heap_setCell_same _ _ _ _ _ _ h.blk⟩
theorem fld_cell (h:FldP w0 B T cs fs L X wx) (k:Nat):wx.cell? ⟨B,k,none⟩=(fldC cs L fs)[k]?:=by
 simp only[World.cell?]
 rw[h.blk]
 simp
theorem fld_frozen (h:FldP w0 B T cs fs L X wx) (k:Nat):wx.frozen? ⟨B,k,none⟩=false:=by
 simp only[World.frozen?]
 rw[h.blk]
 simp
theorem fld_there (h:FldP w0 B T cs fs L X wx) {k:Nat} (hk:k<cs.size):∃ v,wx.cell? ⟨B,k,none⟩=some v:=by
 rw[fld_cell h]
 exact⟨_,Array.getElem?_eq_getElem (by rw[fld_size];exact hk)⟩
theorem fld_far (h:FldP w0 B T cs fs L X wx) {a:Addr} (hk:a.block<w0.heap.size) (hne:a.block≠B):wx.cell? a=w0.cell? a:=World.cell?_of_block (h.block _ hk hne)
end
theorem wpList_load_blk {P:Program} {ops:Array Oper} {rest:List Oper} {o:Oper} {a:Act} {w:World} {Q:Exit→Act→World→Prop} (ho:o.guard=none) (ty:TypeId) (x:Operand) (hop:o.op= .load ty x)
  (g:Nat) (cs:Array Value) {t:TypeId} {d:TypeDesc} (hx:a.eval x= .pointer (some ⟨g,0,none⟩)) (hg:w.heap[g]?=some (.cells cs t (0,0)))
  (hu:P.underlying ty=some d) (hd:(match d with | .struct _ | .array _ _=>true|_=>false)=true) (hi:(P.info? ty).map (·.size)=some cs.size)
  (h:wpList P ops Q rest (a.put o.dst (.agg cs)) w):wpList P ops Q (o::rest) a w :=
 wpList_plain ho fun _ hK=>by
  unfold Oper.wp execOp
  simp only[hop,hx,Instr.loadAt,Instr.sureAddr,Sem.run_bind,Sem.run_pure,Result.andThen_ok,run_loadVar_row w g t ty cs (0,0) d hg hu hd hi]
  exact hK _ _ h
theorem wpList_store_blk {P:Program} {ops:Array Oper} {rest:List Oper} {o:Oper} {a:Act} {w:World} {Q:Exit→Act→World→Prop} (ho:o.guard=none) (ty:TypeId) (x y:Operand) (hop:o.op= .store ty x y)
  (g:Nat) (cells:Array Value) {t:TypeId} {old:Array Value} (hx:a.eval x= .pointer (some ⟨g,0,none⟩)) (hy:a.eval y= .agg cells) (hg:w.heap[g]?=some (.cells old t (0,0)))
  (hi:(P.info? ty).map (·.size)=some cells.size) (hold:old.size=cells.size) (h1:cells.all (·.oneCell')=true)
  (h:wpList P ops Q rest (a.put o.dst undef) (w.setRow g cells)):wpList P ops Q (o::rest) a w :=
 wpList_plain ho fun _ hK=>wp_store_row ty x y hop g cells hx hy t old hg hi hold h1 (hK _ _ h)
theorem results_one {P:Program} {fn:Func} {p:Tmp} {ty:TypeId} (h:fn.results= #[.cell p ty]) (tmps:Array Value) (w:World) (g:Nat) (t:TypeId) (cs:Array Value) (d:TypeDesc)
  (hp:tmps.getD p undef= .pointer (some ⟨g,0,none⟩)) (hg:w.heap[g]?=some (.cells cs t (0,0)))
  (hu:P.underlying ty=some d) (hd:(match d with | .struct _ | .array _ _=>true|_=>false)=true) (hi:(P.info? ty).map (·.size)=some cs.size) :
  (results fn tmps).run P w= .ok (.agg cs) w:=by
 have hp':tmps[p]?.getD undef= .pointer (some ⟨g,0,none⟩):=by simpa using hp
 simp[results,h,hp',asAddr,run_loadVar_row w g t ty cs (0,0) d hg hu hd hi]
end Go.Proofs.YtgiogemkomgkhaaGreatDoor.Ri
