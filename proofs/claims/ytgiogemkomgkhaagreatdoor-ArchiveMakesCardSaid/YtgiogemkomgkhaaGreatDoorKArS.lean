/-
  archive.Segments and Make.
-/
import Derived.Test.YtgiogemkomgkhaaGreatDoorKNm
import Derived.Test.YtgiogemkomgkhaaGreatDoorKArB
set_option linter.unusedVariables false
set_option linter.unusedSimpArgs false
namespace Go.Proofs.YtgiogemkomgkhaaGreatDoor.Rj
open Go Go.RowKit Rb
inductive Goes {α σ:Type} (next:σ→Option (α×σ)) (st0:σ):List α→σ→Prop
 | nil:Goes next st0 [] st0
 | snoc {pre:List α} {st st':σ} {x:α}:Goes next st0 pre st→next st=some (x,st')→Goes next st0 (pre ++ [x]) st'
def SeqJ {α σ:Type} (F:Fence) (n:Nat) (P:Program) (g:Nat) (lb:Array Value) (enc:α→Value) (next:σ→Option (α×σ)) (I:List α→σ→World→Prop) (st0:σ) (n₀:Nat):Prop :=
 ∀ (l:Nat) (K:World→Prop) (W:World),(∀ X Y,K X→KeepsFrom n₀ X Y→K Y) →
  (∀ pre x st W1,Goes next st0 (pre ++ [x]) st→I pre st W1→K W1→YieldAt F (n - 1) P l #[enc x] W1 fun e W'=>e= .returned (.bool true)∧I (pre ++ [x]) st W'∧K W') →
  I [] st0 W→K W →
  CallsIn F n P g (#[.func (.yield l) #[] #[]]++lb) W fun e W'=>(∃ v,e= .returned v)∧∃ pre st,Goes next st0 pre st∧next st=none∧I pre st W'∧K W'
def roundJ {α σ:Type} (n₀:Nat) (I:List α→σ→World→Prop) (xs:List α) (st:σ) (W:World):Exit→Act→World→Prop
 | .normal,_,W'=>KeepsFrom n₀ W W'∧I xs st W'
 | _,_,_=>False
variable {F:Fence} {n:Nat} {P:Program} {w:World}
theorem range_joint {α σ:Type} {g:Operand} {ps:Array Tmp} {assign body:Code} {Q:Exit→Act→World→Prop} {a:Act}
  (hro:F.round=none) (h1:1≤n) {gf:Nat} {lb:Array Value} (hg:a.eval g= .func (.func gf) #[] lb) (hFg:F.fn gf) (eg:∀ args w,(callFunc gf args).run P w= .ok (.enter gf args) w)
  {enc:α→Value} {next:σ→Option (α×σ)} {st0:σ} (I:List α→σ→World→Prop) (hseq:SeqJ F (n - 1) P gf lb enc next I st0 w.heap.size) (hps:ps.size=1)
  (hI:∀ pre st W W' row,I pre st W→W.grownBy W' row→(∀ r,row=some r→w.heap.size≤r∧∃ o:Obj,W.heap[r]?=some o∧o.isCells=false)→I pre st W') (h0:I [] st0 w) (a₁:α→Act)
  (hassign:∀ (l:Nat) (x:α) (W:World) (K:Act→World→Prop),K (a₁ x) W →
   assign.wpIn (F.inRound l) (n - 1 - 1) P (Exit.then K (fun _ _ _=>False)) { tmps:=(ps.zip #[enc x]).foldl (fun t (p,v)=>t.setIfInBounds p v) a.tmps,defers:= [] } W)
  (hbody:∀ (l:Nat) (pre:List α) (x:α) (st:σ) (W:World),w.heap.size≤W.heap.size→Goes next st0 (pre ++ [x]) st→I pre st W→body.wpIn (F.inRound l) (n - 1 - 1) P (roundJ w.heap.size I (pre ++ [x]) st W) (a₁ x) W)
  (hdone:∀ (D:Nat) (W:World) (pre:List α) (st:σ),w.heap.size≤D→Goes next st0 pre st→next st=none→I pre st W→W.heap[D]?=some (.deferred (some []))→Q .normal { a with defers:= { target:= .collected D,args:= #[] }::a.defers } W) :
  (Code.rangeFunc g ps assign body).wpIn F n P Q a w:=by
 refine wpIn_rangeFunc ?_
 intro fn hfn
 rw[hro]
 have hAl:∀ {pre:List α} {st:σ} {W:World} (o:Obj),I pre st W→I pre st (W.alloc o):=fun o hs=>hI _ _ _ _ none hs (World.grownBy_alloc _ o none) (fun r e=>by cases e)
 have hPut:∀ {pre:List α} {st:σ} {W:World} {l:Nat} {o:Obj} (o':Obj),I pre st W→w.heap.size≤l→W.heap[l]?=some o→o.isCells=false→I pre st (W.putObj l o'):=fun {pre st W l o} o' hs hl ho hc =>
  hI _ _ _ _ (some l) hs (grownBy_putObj' W l o') (fun r e=>by cases e;exact⟨hl,o,ho,hc⟩)
 obtain⟨rec,hrec⟩:∃ rec:LoopState→Option Code→Loop,rec=fun st pe=> { state:=st,pending:=pe,fn,tmps:=a.tmps,params:=ps,assign,body,defers:=w.heap.size }:=⟨_,rfl⟩
 obtain⟨W1,hW1⟩:∃ W1,(w.alloc (.deferred (some []))).alloc (.loop (rec .ready none))=W1:=⟨_,rfl⟩
 have hL:W1.heap[w.heap.size+1]?=some (.loop (rec .ready none)):=by
  rw[← hW1];have:=World.alloc_heap_new (w.alloc (.deferred (some []))) (.loop (rec .ready none));rwa[World.size_alloc]at this
 have hK:W1.heap[w.heap.size]?=some (.deferred (some [])):=by
  rw[← hW1];exact(Below.heap_alloc _ _ _ (by simp)).trans (World.alloc_heap_new w _)
 have hI1:I [] st0 W1:=by rw[← hW1];exact hAl _ (hAl _ h0)
 refine⟨w.heap.size+1,[{ target:= .collected w.heap.size,args:= #[] }],W1,{ target:= .fn (.func gf) lb,args:= #[.func (.yield (w.heap.size+1)) #[] #[]] },W1,gf,
  #[.func (.yield (w.heap.size+1)) #[] #[]]++lb,W1,by rw[← hW1,hrec];exact run_enterLoop_outer _ _ _ _ _,by simp only[resolve,hg];simp[go_sem],?_,by simp[invoke,go_sem,eg],fun _=>h1,?_⟩
 ·intro f' hf';simp[Target.leads]at hf';subst hf';exact hFg
 let Bk (st:LoopState) (pe:Option Code) (W:World):Prop:=W.heap[w.heap.size+1]?=some (.loop (rec st pe))∧W.heap[w.heap.size]?=some (.deferred (some []))
 have bkLt:∀ {st pe W},Bk st pe W→w.heap.size+1<W.heap.size:=fun h=>(Array.getElem?_eq_some_iff.1 h.1).1
 refine(hseq (w.heap.size+1) (fun W=>Bk .ready none W) W1 (fun X Y h hk=>⟨hk.same _ _ (by omega) h.1 rfl,hk.same _ _ (Nat.le_refl _) h.2 rfl⟩) ?_ hI1 ⟨hL,hK⟩).mono ?_
 ·rintro pre x st W hgo hi hb
  have hlt:=bkLt hb
  have hy:=run_yield (P:=P) (args:= #[enc x]) hb.1 (by rw[hrec];simp[hps])
  rw[hrec]at hy
  refine⟨fn,_,assign,body,hy,roundIn_of_wpIn hfn (hassign _ x W _ ?_)⟩
  clear hy
  refine⟨_,run_beginRound hb.1 (by rw[hrec]),?_⟩
  obtain⟨X,hX⟩:∃ X,W.putObj (w.heap.size+1) (.loop { rec .ready none with state:= .busy })=X:=⟨_,rfl⟩
  have hXl:X.heap[w.heap.size+1]?=some (.loop { rec .ready none with state:= .busy }):=by rw[← hX];exact World.putObj_heap_same hlt
  have hXk:X.heap[w.heap.size]?=some (.deferred (some [])):=by rw[← hX];exact(World.putObj_heap_other (by omega)).trans hb.2
  have hXi:I pre st X:=by rw[← hX];exact hPut _ hi (by omega) hb.1 rfl
  have hXz:w.heap.size≤X.heap.size:=by have:=(Array.getElem?_eq_some_iff.1 hXl).1;omega
  rw[hX]
  refine wpIn_mono (hbody _ pre x st X hXz hgo hXi) ?_
  rintro e a3 Y hp
  cases e with
  | normal =>
   obtain⟨hk3,hi3⟩:=hp
   have hl3:=hk3.same _ _ (by omega) hXl rfl
   have hr:=run_endRound (P:=P) none hl3
   rw[hrec]at hr
   refine⟨_,_,hr,rfl,hPut _ hi3 (by omega) hl3 rfl,?_,(World.putObj_heap_other (by omega)).trans (hk3.same _ _ (Nat.le_refl _) hXk rfl)⟩
   rw[World.putObj_heap_same (Array.getElem?_eq_some_iff.1 hl3).1,hrec]
   rfl
  | _=>exact hp.elim
 ·rintro e W2 ⟨⟨v,rfl⟩,pre,st,hgo,hnx,hi,hb⟩
  exact⟨none,_,by have:=run_endLoop (P:=P) hb.1 (by rw[hrec];simp);rw[hrec]at this;exact this,hdone _ _ pre st (Nat.le_refl _) hgo hnx (hPut _ hi (by omega) hb.1 rfl) ((World.putObj_heap_other (by omega)).trans hb.2)⟩
end Go.Proofs.YtgiogemkomgkhaaGreatDoor.Rj
namespace Go.Proofs.YtgiogemkomgkhaaGreatDoor.Ar
open Go.RowKit Go.Shelf Mg Zp YtgiogemkomgkhaaGreatDoor.Nm Df Cr Bk Mt Ri Rf Bw Rj
attribute [local go_sem] Oper.semAt_some
noncomputable def stepP (level:Nat) (fs:List Fl) (st:Mst):Option (ByteArray×Mst) :=
 if (nextP level fs st).1.2 then some ((nextP level fs st).1.1,(nextP level fs st).2) else none
def leftN (fs:List Fl) (st:Mst):Nat:=st.rest.size+600000001*((fs.length - st.k)+if st.tail then 0 else 1)
theorem more_left {level:Nat} {fs:List Fl} {st:Mst} (h:Fair level fs st) (hm:(moreP level fs st).1=true) (h0:st.rest.size=0):leftN fs (moreP level fs st).2<leftN fs st∧0<(moreP level fs st).2.rest.size:=by
 have hf:=h.more.rest
 unfold moreP at hm hf ⊢
 split at hm
 ·rename_i f hk
  have hlt:=(List.getElem?_eq_some_iff.1 hk).1
  have hok:=h.ok f (List.mem_of_getElem? hk)
  have hp:=h.pos
  have hn:=h.n
  rw[hk]at hf
  simp only at hf ⊢
  constructor
  ·unfold leftN
   simp only
   have:fs.length - (st.k+1)+1=fs.length - st.k:=by omega
   omega
  ·have hg:=(head_fine level f st.pos hok (by omega)).1.g
   unfold fileS
   rw[ByteArray.size_append,ByteArray.size_append,locS_size hg]
   omega
 ·rename_i hk
  split at hm
  ·cases hm
  ·rename_i ht
   rw[hk]at hf
   simp only[ht,Bool.false_eq_true,if_false]at hf ⊢
   constructor
   ·unfold leftN
    simp only[ht,Bool.false_eq_true,if_false,if_true]
    omega
   ·unfold tailS
    rw[ByteArray.size_append]
    have:22≤(endS st.hs.length (catL st.hs).length (tailAt st.hs 0)).size:=by
     have h1:=catL_len st.hs (fun x hx=>(h.fine x hx).c)
     have h2:=h.len
     have h3:=h.k
     have h4:=h.n
     have hta:tailAt st.hs 0<4611686018427387904:=by
      rcases List.eq_nil_or_concat st.hs with e|⟨l,x,e⟩
      ·rw[e];decide
      ·have:=(h.fine x (by rw[e];simp)).m
       rw[e,List.concat_eq_append,tailAt_snoc]
       exact this.2
     unfold endS
     rw[if_pos (by omega)]
     simp only[ByteArray.size_append,puI_2,puI_4,narS_size]
     show 22≤_+4+4+2+2+4+4+2
     omega
    omega
theorem step_left {level:Nat} {fs:List Fl} {st st':Mst} {x:ByteArray} (h:Fair level fs st) (hs:stepP level fs st=some (x,st')):leftN fs st'<leftN fs st:=by
 unfold stepP at hs
 split at hs
 ·rename_i hb
  simp only[Option.some.injEq,Prod.mk.injEq]at hs
  obtain⟨-,rfl⟩:=hs
  unfold nextP at hb ⊢
  split
  ·rename_i h0
   rw[if_pos h0]at hb
   split
   ·rename_i hm
    obtain⟨h1,h2⟩:=more_left h hm h0
    unfold leftN at h1 ⊢
    simp only at h1 ⊢
    rw[ByteArray.size_extract]
    omega
   ·rename_i hm
    rw[if_neg hm]at hb
    cases hb
  ·rename_i h0
   unfold leftN
   simp only
   rw[ByteArray.size_extract]
   omega
 ·cases hs
theorem Fair.step {level:Nat} {fs:List Fl} {st st':Mst} {x:ByteArray} (h:Fair level fs st) (hs:stepP level fs st=some (x,st')):Fair level fs st':=by
 unfold stepP at hs
 split at hs
 ·simp only[Option.some.injEq,Prod.mk.injEq]at hs
  obtain⟨-,rfl⟩:=hs
  exact h.next
 ·cases hs
theorem Fair.goes {level:Nat} {fs:List Fl} {st0 st:Mst} {pre:List ByteArray} (h:Fair level fs st0) (hg:Goes (stepP level fs) st0 pre st):Fair level fs st:=by
 induction hg with
 | nil=>exact h
 | snoc _ hs ih=>exact ih.step hs
inductive Runs {α σ:Type} (next:σ→Option (α×σ)):σ→List α→σ→Prop
 | nil (s:σ):Runs next s [] s
 | cons {s s' t:σ} {x:α} {l:List α}:next s=some (x,s')→Runs next s' l t→Runs next s (x::l) t
theorem Runs.snoc {α σ:Type} {next:σ→Option (α×σ)} {s t u:σ} {l:List α} {x:α} (h:Runs next s l t) (hx:next t=some (x,u)):Runs next s (l ++ [x]) u:=by
 induction h with
 | nil s=>exact .cons hx (.nil _)
 | cons h1 _ ih=>exact .cons h1 (ih hx)
theorem runs_of {α σ:Type} {next:σ→Option (α×σ)} {s t:σ} {l:List α} (h:Goes next s l t):Runs next s l t:=by
 induction h with
 | nil=>exact .nil _
 | snoc _ hx ih=>exact ih.snoc hx
theorem Runs.one {α σ:Type} {next:σ→Option (α×σ)} {s t:σ} {a:List α} (h:Runs next s a t) (ht:next t=none):∀ {b:List α} {u:σ},Runs next s b u→next u=none→a=b∧t=u:=by
 induction h with
 | nil s =>
  intro b u hb hu
  cases hb with
  | nil=>exact⟨rfl,rfl⟩
  | cons h1 _=>rw[ht]at h1;cases h1
 | cons h1 _ ih =>
  intro b u hb hu
  cases hb with
  | nil=>rw[hu]at h1;cases h1
  | cons h2 h3 =>
   rw[h1]at h2
   simp only[Option.some.injEq,Prod.mk.injEq]at h2
   obtain⟨rfl,rfl⟩:=h2
   obtain⟨rfl,rfl⟩:=ih ht h3 hu
   exact⟨rfl,rfl⟩
theorem step_none {level:Nat} {fs:List Fl} {st:Mst} (h:stepP level fs st=none):(nextP level fs st).1=(⟨#[]⟩,false):=by
 unfold stepP at h
 split at h
 ·cases h
 ·rename_i hb
  unfold nextP at hb ⊢
  split
  ·rename_i h0
   rw[if_pos h0]at hb
   split
   ·rename_i hm
    rw[if_pos hm]at hb
    exact absurd rfl hb
   ·rfl
  ·rename_i h0
   rw[if_neg h0]at hb
   exact absurd rfl hb
theorem step_some {level:Nat} {fs:List Fl} {st st':Mst} {x:ByteArray} (h:stepP level fs st=some (x,st')):nextP level fs st=((x,true),st'):=by
 unfold stepP at h
 split at h
 ·rename_i hb
  simp only[Option.some.injEq,Prod.mk.injEq]at h
  obtain⟨rfl,rfl⟩:=h
  rw[← hb]
 ·cases h
theorem all_seq (n:Nat) (B m:Nat) (level:Nat) (fs:List Fl) (I:List ByteArray→Mst→World→Prop) (st0:Mst) (n₀:Nat) (hF:Fair level fs st0)
  (hbox:∀ pre st W,I pre st W→W.cell? ⟨B,0,none⟩=some (.pointer (some ⟨m,0,none⟩)))
  (hnext:∀ pre st W,I pre st W→Fair level fs st→Calls Tryz.prog 11 #[.pointer (some ⟨m,0,none⟩)] W fun e W'=>e= .returned (.tuple #[.string (nextP level fs st).1.1,.bool (nextP level fs st).1.2])∧I pre (nextP level fs st).2 W'∧KeepsFrom n₀ W W') :
  SeqJ Fence.wide n Tryz.prog 36 #[.pointer (some ⟨B,0,none⟩)] Value.string (stepP level fs) I st0 n₀:=by
 intro l K W hK hY hI0 hK0
 refine callsIn_of_wp Tryz.func36 rfl trivial ?_ rfl
 simp only[Tryz.ntmps36,List.size_toArray,List.length_cons,List.length_nil,Nat.reduceAdd,Nat.reduceSub,Array.replicate_succ,Array.replicate_zero,List.push_toArray,List.append_toArray,List.nil_append,List.cons_append]
 have HK:=Lib.hid hK
 have HY:=Lib.hid hY
 have HN:=Lib.hid hnext
 have HBX:=Lib.hid hbox
 have b0:=hbox _ _ _ hI0
 have HST:Hid (∀ pre st,Fair level fs st→Goes (stepP level fs) st0 pre st→∀ wr,I pre (nextP level fs st).2 wr→K wr→∃ pre2 st2,Fair level fs st2∧K wr∧I pre2 st2 wr∧((∃ x,(nextP level fs st).1.1=x∧(nextP level fs st).1.2=true∧Goes (stepP level fs) st0 (pre2 ++ [x]) st2∧leftN fs st2<leftN fs st)∨((nextP level fs st).1.2=false∧(nextP level fs st).1.1=⟨#[]⟩∧Goes (stepP level fs) st0 pre2 st2∧stepP level fs st2=none))):=Lib.hid (fun pre st hf hg wr hi hk=>by
  cases hs:stepP level fs st with
  | none =>
   have h1:=step_none hs
   have h2:(nextP level fs st).2=st:=by
    unfold stepP at hs
    split at hs
    ·cases hs
    ·rename_i hb
     unfold nextP at hb ⊢
     split
     ·rename_i h0
      rw[if_pos h0]at hb
      split
      ·rename_i hm
       rw[if_pos hm]at hb
       exact absurd rfl hb
      ·rfl
     ·rename_i h0
      rw[if_neg h0]at hb
      exact absurd rfl hb
   rw[h2]at hi
   exact⟨pre,st,hf,hk,hi,.inr ⟨by rw[h1],by rw[h1],hg,hs⟩⟩
  | some p =>
   obtain⟨x,st2⟩:=p
   have h1:=step_some hs
   rw[h1]at hi
   exact⟨pre,st2,hf.step hs,hk,hi,.inl ⟨x,by rw[h1],by rw[h1],.snoc hg hs,step_left hf hs⟩⟩)
 clear hK hY hnext hbox
 gi_wp2_with fail
 refine⟨trivial,(fun h=>(nomatch h)),(callsIn_wide.2 (HN.out [] st0 W hI0 hF)).mono ?_⟩
 rintro e w1 ⟨rfl,hi1,hk1⟩
 obtain⟨pre1,st1,hf1,hkk1,hii1,hd1⟩:=HST.out [] st0 hF .nil w1 hi1 (HK.out _ _ hK0 hk1)
 obtain⟨s1,hs1⟩:∃ s1,(nextP level fs st0).1.1=s1:=⟨_,rfl⟩
 obtain⟨o1,ho1⟩:∃ o1,(nextP level fs st0).1.2=o1:=⟨_,rfl⟩
 rw[hs1,ho1]at hd1
 rw[hs1,ho1]
 have HD1:=Lib.hid hd1
 clear hd1 hi1 hk1 b0 hs1 ho1
 gi_wp2_with fail
 gi_loopg [3,4] (leftN fs st0+1) (fun gk vs vk wr=>∃ (pre:List ByteArray) (st:Mst) (s:ByteArray) (ok:Bool),vs= .string s∧vk= .bool ok∧Fair level fs st∧K wr∧I pre st wr∧((∃ x,s=x∧ok=true∧Goes (stepP level fs) st0 (pre ++ [x]) st∧leftN fs st<gk)∨(ok=false∧s=⟨#[]⟩∧Goes (stepP level fs) st0 pre st∧stepP level fs st=none)))
 case atStart =>
  refine⟨pre1,st1,s1,o1,rfl,rfl,hf1,hkk1,hii1,?_⟩
  rcases HD1.out with⟨x,h1,h2,h3,h4⟩|h
  ·exact .inl ⟨x,h1,h2,h3,by omega⟩
  ·exact .inr h
 case round =>
  obtain⟨pre,st,s,ok,rfl,rfl,hf,hkk,hii,hd⟩:=hrel
  rcases hd with⟨x,rfl,rfl,hg,hl⟩|⟨rfl,rfl,hg,hn⟩
  ·obtain⟨fn,tmps,assign,body,hy,hR⟩:=HY.out pre s st wr hg hii hkk
   have HG:=Lib.hid hg
   clear hg HD1 hii1 hkk1 hii hkk
   gi_wp2_with fail
   refine⟨(fun h=>(nomatch h)),hR.mono ?_⟩
   rintro e W2 ⟨rfl,hi2,hk2⟩
   have b2:=HBX.out _ _ _ hi2
   gi_wp2_with fail
   refine⟨trivial,(fun h=>(nomatch h)),(callsIn_wide.2 (HN.out _ st W2 hi2 hf)).mono ?_⟩
   rintro e W3 ⟨rfl,hi3,hk3⟩
   obtain⟨pre3,st3,hf3,hkk3,hii3,hd3⟩:=HST.out _ st hf HG.out W3 hi3 (HK.out _ _ hk2 hk3)
   obtain⟨s3,hs3⟩:∃ s3,(nextP level fs st).1.1=s3:=⟨_,rfl⟩
   obtain⟨o3,ho3⟩:∃ o3,(nextP level fs st).1.2=o3:=⟨_,rfl⟩
   rw[hs3,ho3]at hd3
   rw[hs3,ho3]
   have HD3:=Lib.hid hd3
   obtain⟨gk',rfl⟩:∃ g,gk=g+1:=⟨gk - 1,by omega⟩
   clear hd3 hi2 hk2 hi3 hk3 hs3 ho3 hy hR b2
   gi_wp2
   gi_roundg gk'
   case measure=>omega
   case rel =>
    refine⟨pre3,st3,s3,o3,rfl,rfl,hf3,hkk3,hii3,?_⟩
    rcases HD3.out with⟨x,h1,h2,h3,h4⟩|h
    ·exact .inl ⟨x,h1,h2,h3,by omega⟩
    ·exact .inr h
  ·have HG:=Lib.hid hg
   have HNN:=Lib.hid hn
   gi_wp2
   go_end0
   exact⟨⟨_,rfl⟩,pre,st,HG.out,HNN.out,hii,hkk⟩
theorem all_made (m:Nat) (w:World):Calls Tryz.prog 20 #[.pointer (some ⟨m,0,none⟩)] w fun e w'=>e= .returned (.func (.func 36) #[] #[.pointer (some ⟨w.heap.size,0,none⟩)])∧w'=w.alloc (.cells #[.pointer (some ⟨m,0,none⟩)] 34):=by
 go_enter Tryz.func20,Tryz.ntmps20
 go_wp2
 go_ret
 exact⟨rfl,rfl⟩
def CK (W W':World):Prop:=∀ (j:Nat) (o:Obj),W.heap[j]?=some o→o.isCells=true→W'.heap[j]?=some o
theorem CK.blk {W W':World} (h:CK W W') {B T:Nat} {cs:Array Value} (k:Blk B cs T W):Blk B cs T W':=h _ _ k rfl
theorem CK.own {W W':World} (h:CK W W') {base T sz n:Nat} {v:Value} {xs:List Value} (k:W.ownsRow base T sz v n xs):W'.ownsRow base T sz v n xs:=by
 refine⟨k.1,?_⟩
 rcases k.2 with hn|⟨g,cap,cur,rfl,h1,h2,rest⟩
 ·exact .inl hn
 ·exact .inr ⟨g,cap,cur,rfl,h1,h _ _ h2 rfl,rest⟩
theorem cells_of_cell {W:World} {b k:Nat} {v:Value} (h:W.cell? ⟨b,k,none⟩=some v):∃ o,W.heap[b]?=some o∧o.isCells=true:=by
 cases hh:W.heap[b]? with
 | none=>simp[World.cell?,hh]at h
 | some o=>cases o<;>simp[World.cell?,hh]at h<;>exact⟨_,rfl,rfl⟩
theorem CK.cell {W W':World} (h:CK W W') {b k:Nat} {v:Value} (hc:W.cell? ⟨b,k,none⟩=some v):W'.cell? ⟨b,k,none⟩=some v:=by
 obtain⟨o,h1,h2⟩:=cells_of_cell hc
 rw[World.cell?_of_block (a:=⟨b,k,none⟩) ((h _ _ h1 h2).trans h1.symm)]
 exact hc
theorem CK.mk {W W':World} (h:CK W W') {lo m T level:Nat} {fs:List Fl} {vf vh:Value} {st:Mst} (k:MkAt W lo m T level fs vf st vh):MkAt W' lo m T level fs vf st vh:=by
 refine⟨h.blk k.blk,h.own k.row,fun i hi=>h.cell (k.tab i hi),k.tT,?_⟩
 obtain⟨A,c,e,h1,h2⟩:=k.fs
 refine⟨A,c,e,fun j hj=>?_,h2⟩
 obtain⟨g,o,e2,h3⟩:=h1 j hj
 exact⟨g,o,e2,h.cell h3⟩
theorem ck_of {W W':World} {row:Option Nat} {n₀:Nat} (hg:W.grownBy W' row) (hr:∀ r,row=some r→n₀≤r∧∃ o:Obj,W.heap[r]?=some o∧o.isCells=false):CK W W':=fun j o ho hc=>by
 refine(hg.block j (Array.getElem?_eq_some_iff.1 ho).1 (fun e=>?_)).trans ho
 obtain⟨-,o2,h2,h3⟩:=hr j e.symm
 rw[ho]at h2
 cases h2
 rw[hc]at h3
 cases h3
theorem row_blk {W:World} {base T sz n B T2:Nat} {v:Value} {xs:List Value} {cs:Array Value} (h:W.ownsRow base T sz v n xs) (k:Blk B cs T2 W) (hne:T≠T2):v.ownBlock≠some B:=by
 intro e
 rcases h.2 with⟨rfl,_⟩|⟨g,cap,cur,rfl,h1,h2,rest⟩
 ·cases e
 ·simp only[Value.ownBlock,Option.some.injEq]at e
  subst e
  have h3:some (Obj.cells cur T (0,0))=some (Obj.cells cs T2 (0,0)):=h2.symm.trans k
  simp only[Option.some.injEq,Obj.cells.injEq]at h3
  exact hne h3.2.1
theorem row_row {W:World} {base T sz n base2 T2 sz2 n2:Nat} {v v2:Value} {xs xs2:List Value} (h:W.ownsRow base T sz v n xs) (k:W.ownsRow base2 T2 sz2 v2 n2 xs2) (hne:T≠T2):∀ j,v.ownBlock=some j→v2.ownBlock≠some j:=by
 intro j hj
 rcases h.2 with⟨rfl,_⟩|⟨g,cap,cur,rfl,h1,h2,rest⟩
 ·cases hj
 ·simp only[Value.ownBlock,Option.some.injEq]at hj
  subst hj
  intro e
  rcases k.2 with⟨rfl,_⟩|⟨g2,cap2,cur2,rfl,h3,h4,rest2⟩
  ·cases e
  ·simp only[Value.ownBlock,Option.some.injEq]at e
   subst e
   rw[h2]at h4
   simp only[Option.some.injEq,Obj.cells.injEq]at h4
   exact hne h4.2.1
theorem goes_len {level:Nat} {fs:List Fl} {st0 st:Mst} {pre:List ByteArray} (h:Fair level fs st0) (hg:Goes (stepP level fs) st0 pre st):pre.length+leftN fs st≤leftN fs st0:=by
 induction hg with
 | nil=>simp
 | snoc hg2 hs ih =>
  have:=step_left (h.goes hg2) hs
  rw[List.length_append]
  simp only[List.length_cons,List.length_nil]
  omega
theorem left0 {fs:List Fl} (hn:fs.length≤500):leftN fs start0≤400000000000:=by
 unfold leftN start0
 simp only
 have:(⟨#[]⟩:ByteArray).size=0:=rfl
 rw[this]
 simp
 omega
theorem MkAt.keep {W W':World} {lo m T level:Nat} {fs:List Fl} {vf vh:Value} {st:Mst} (h:MkAt W lo m T level fs vf st vh) (h1:∀ j,j≤m→lo≤j→W'.heap[j]?=W.heap[j]?) (h2:∀ j,vh.ownBlock=some j→W'.heap[j]?=W.heap[j]?):MkAt W' lo m T level fs vf st vh:=by
 refine⟨(h1 m (Nat.le_refl _) h.lo_le.1).trans h.blk,own_same h.row h2,h.tab.heap (h1 T (by have:=h.tT;omega) h.tT.1),h.tT,?_⟩
 obtain⟨A,c,e,k1,k2⟩:=h.fs
 refine⟨A,c,e,fun j hj=>?_,k2⟩
 obtain⟨g,o,e2,h3⟩:=k1 j hj
 refine⟨g,o,e2,?_⟩
 have:=k2 g o e2
 rw[World.cell?_of_block (a:=⟨g,o+j,none⟩) (h1 g (by omega) this.1)]
 exact h3
def SegI (lo m T level O B n₀:Nat) (fs:List Fl) (vf:Value) (w:World) (pre:List ByteArray) (st:Mst) (W:World):Prop :=
 ∃ vh vo,MkAt W lo m T level fs vf st vh∧Blk O #[vo] 30 W∧Blk B #[.pointer (some ⟨m,0,none⟩)] 34 W∧W.ownsRow n₀ 9 1 vo pre.length (pre.flatMap strC)∧Below lo w W
theorem segI_ck {lo m T level O B n₀:Nat} {fs:List Fl} {vf:Value} {w W W':World} {pre:List ByteArray} {st:Mst} (h:SegI lo m T level O B n₀ fs vf w pre st W) (hc:CK W W') (hb:Below lo W W'):SegI lo m T level O B n₀ fs vf w pre st W':=by
 obtain⟨vh,vo,h1,h2,h3,h4,h5⟩:=h
 exact⟨vh,vo,hc.mk h1,hc.blk h2,hc.blk h3,hc.own h4,h5.trans hb⟩
theorem segI_next {lo m T level O B n₀:Nat} {fs:List Fl} {vf:Value} {w W:World} {pre:List ByteArray} {st:Mst} (h:SegI lo m T level O B n₀ fs vf w pre st W) (hf:Fair level fs st) (hG:Globs lo w) (hl:level≤9) (hmO:m<O) (hmB:m<B) (hmn:m<n₀) :
  Calls Tryz.prog 11 #[.pointer (some ⟨m,0,none⟩)] W fun e W'=>e= .returned (.tuple #[.string (nextP level fs st).1.1,.bool (nextP level fs st).1.2])∧SegI lo m T level O B n₀ fs vf w pre (nextP level fs st).2 W'∧KeepsFrom n₀ W W':=by
 obtain⟨vh,vo,h1,h2,h3,h4,h5⟩:=h
 refine(mnext_calls lo m T level fs vf st vh W h1 hf (hG.below h5) hl).mono ?_
 rintro e W' ⟨vh',rfl,k1,k2,k3⟩
 have hO:=row_blk h1.row h2 (by decide)
 have hB:=row_blk h1.row h3 (by decide)
 refine⟨rfl,⟨vh',vo,k1,(k2.block O h2.lt (by rintro(e|e);omega;exact hO e)).trans h2,(k2.block B h3.lt (by rintro(e|e);omega;exact hB e)).trans h3,own_same h4 (fun j hj=>k2.block j (h4.lt j hj).2 (by
  have h6:=(h4.lt j hj).1
  rintro(e|e)
  ·omega
  ·exact row_row h4 h1.row (by decide) j hj e)),h5.trans (k2.below h1.lo_le.1 h1.lo_le.2.2 h1.lo_le.2.1)⟩,k2.size,fun j o hj ho hc=>(k2.block j (Array.getElem?_eq_some_iff.1 ho).1 (by
  rintro(e|e)
  ·subst e
   have h6:W.heap[j]?=some (.cells _ _ _):=h1.blk
   rw[ho]at h6
   cases h6
   cases hc
  ·rcases h1.row.2 with⟨rfl,_⟩|⟨g,cap,cur,rfl,q1,q2,rest⟩
   ·cases e
   ·simp only[Value.ownBlock,Option.some.injEq]at e
    subst e
    rw[ho]at q2
    cases q2
    cases hc)).trans ho⟩
def SegsAt (level:Nat) (fs:List Fl) (w:World) (e:Ending) (w':World):Prop :=
 ∃ A' c' xs st,e= .returned (.tuple #[.slice A' (xs:List ByteArray).length c',.int .i64 0])∧Runs (stepP level fs) start0 xs st∧stepP level fs st=none∧Cels w' A' (xs.flatMap strC)∧Below w.heap.size w w'∧(∀ g o,A'=some ⟨g,o,none⟩→w.heap.size≤g)∧xs.length≤c'∧xs.length≤400000000000
theorem fair0 {level:Nat} {fs:List Fl} (hn:fs.length≤500) (hok:∀ f∈fs,f.ok):Fair level fs start0:=⟨hn,hok,Nat.zero_le _,Nat.zero_le _,rfl,(fun h hh=>by cases hh),by decide⟩
set_option maxHeartbeats 8000000 in
set_option maxRecDepth 100000 in
theorem segs_calls (A:Option Addr) (c:Nat) (fs:List Fl) (level:Nat) (w:World) (hA:Cels w A (fs.flatMap flC)) (hn:fs.length≤500) (hok:∀ f∈fs,f.ok) (hG:Globs w.heap.size w) (hl:level≤9) (hc:(checkP fs level).2=0) :
  Calls Tryz.prog 9 #[.slice A fs.length c,.int .i64 (level:Int)] w fun e w'=>SegsAt level fs w e w':=by
 have HN:=Lib.hid (new_calls A c fs level w hA hn (fun f hf=>⟨by have:=ok_name (hok f hf);omega,by have:=(hok f hf).d;omega⟩) hG.here.2.2 hc)
 have HF0:=Lib.hid (fair0 (level:=level) hn hok)
 have HG:=Lib.hid hG
 obtain⟨n,hn0⟩:∃ n,fs.length=n:=⟨_,rfl⟩
 rw[hn0]at HN
 rw[hn0]
 clear hA hn hok hG hc hn0
 refine(callsIn_wide (n:=3)).1 ?_
 refine callsIn_of_wp_marks Tryz.func9 rfl trivial ?_ rfl
 simp only[Tryz.ntmps9,List.size_toArray,List.length_cons,List.length_nil,Nat.reduceAdd,Nat.reduceSub,Array.replicate_succ,Array.replicate_zero,List.push_toArray,List.append_toArray,List.nil_append,List.cons_append]
 gi_wp2_with (first|(refine⟨trivial,?_⟩;gi_at_call 10;refine(callsIn_wide.2 HN.out).mono ?_;rintro e w1 ⟨m,T,vf,rfl,hM1,hb1⟩;replace hM1:=Lib.hid hM1;replace hb1:=Lib.hid hb1)|(refine⟨trivial,?_⟩;gi_at_call 20;refine(callsIn_wide.2 (all_made _ _)).mono ?_;rintro e w2 ⟨rfl,rfl⟩))
 obtain⟨w3,hw3⟩:∃ w3,(w1.alloc (.cells #[.slice none 0 0] 30)).alloc (.cells #[.pointer (some ⟨m,0,none⟩)] 34)=w3:=⟨_,rfl⟩
 have hb3:Below w1.heap.size w1 w3:=by rw[← hw3];exact((Below.refl _ _).alloc (Nat.le_refl _) _).alloc (by simp) _
 have KO:Blk w1.heap.size #[.slice none 0 0] 30 w3:=by rw[← hw3];exact(Blk.new _ _ _).alloc _
 have KB:Blk (w1.heap.size+1) #[.pointer (some ⟨m,0,none⟩)] 34 w3:=by rw[← hw3];exact Blk.new1 _ _ _ _
 have hm1:m<w1.heap.size:=hM1.out.blk.lt
 have hz3:=KB.lt
 have I0:SegI w.heap.size m T level w1.heap.size (w1.heap.size+1) w3.heap.size fs vf w [] start0 w3:=⟨_,_,hM1.out.below hb3,KO,KB,World.ownsRow_nil _ _ _ _,hb1.out.trans (hb3.mono hb1.out.size)⟩
 rw[hw3]
 clear hw3 hb3 KO KB
 refine Rj.range_joint (F:=Fence.wide) (n:=3) rfl (by omega) (gf:=36) (lb:= #[.pointer (some ⟨w1.heap.size+1,0,none⟩)]) rfl trivial (enters_of Tryz.func36 (by kernel_rfl) rfl)
  (SegI w.heap.size m T level w1.heap.size (w1.heap.size+1) w3.heap.size fs vf w)
  (all_seq _ (w1.heap.size+1) m level fs _ start0 w3.heap.size HF0.out (fun pre st W h=>by obtain⟨vh,vo,h1,h2,h3,h4,h5⟩:=h;exact h3.cell 0) (fun pre st W h hf=>segI_next h hf HG.out hl hm1 (by omega) (by omega)))
  rfl ?hI I0 (fun x=> { tmps:= #[.slice A n c,.int .i64 (level:Int),undef,undef,.slice none 0 0,.int .i64 0,.pointer (some ⟨m,0,none⟩),.int .i64 0,.pointer (some ⟨w1.heap.size,0,none⟩),.string x,.tuple #[.pointer (some ⟨m,0,none⟩),.int .i64 0],.slice A n c,.int .i64 (level:Int),.tuple #[.pointer (some ⟨m,0,none⟩),.int .i64 0],.pointer (some ⟨m,0,none⟩),.int .i64 0,.int .i64 0,.bool false,undef,.pointer (some ⟨m,0,none⟩),.func (.func 36) #[] #[.pointer (some ⟨w1.heap.size+1,0,none⟩)],.string x,undef,undef,undef,undef,undef],defers:= [] }) ?assign ?body ?done
 case hI =>
  intro pre st W W' row h hg hr
  have hlo:w.heap.size≤W.heap.size:=by obtain⟨vh,vo,h1,h2,h3,h4,h5⟩:=h;exact h5.size
  exact segI_ck h (ck_of hg hr) ((Below.refl _ _).grown hg hlo (fun r e=>by have:=(hr r e).1;have:=hb1.out.size;omega))
 case assign =>
  intro l x W K hK
  gi_wp2
  exact hK
 case body =>
  intro l pre x st W hsz hgo ⟨vh,vo,h1,h2,h3,h4,h5⟩
  have hlen:=goes_len HF0.out hgo
  have hl0:=left0 (fs:=fs) HF0.out.n
  rw[List.length_append,List.length_singleton]at hlen
  have c0:=h2.cell 0
  have f0:=h2.frozen 0
  have H1:=Lib.hid h1
  have H2:=Lib.hid h2
  have H3:=Lib.hid h3
  have H4:=Lib.hid h4
  have H5:=Lib.hid h5
  clear h1 h2 h3 h4 h5
  gi_wp2_with (gi_at_builtin;refine wpListIn_append_own _ rfl _ _ 30 rfl w3.heap.size 9 tst (.string ⟨#[]⟩) 1 16 Tryz.underlying30 tst_info tst_zero tst_size tst_bytes rfl (by decide) _ _ _ rfl (H4.out.alloc _) ⟨W.heap.size,0,none⟩ 1 1 (strC x) rfl rfl ?c1 ?c2 ?c3 ?c4 ?c5 ?_)
  case c1=>exact new_cells W (strC x) _
  case c2=>intro u hu;rw[List.mem_singleton.1 hu];rfl
  case c3=>unfold maxLen;omega
  case c4=>omega
  case c5=>simp;omega
  intro v' W2 hown hgr _
  have KO2:Blk w1.heap.size #[vo] 30 W2:=(hgr.block _ (by have:=H2.out.lt;simp;omega) (fun e=>row_blk H4.out H2.out (by decide) e.symm)).trans (H2.out.alloc _)
  obtain⟨g',c',rfl,_,_⟩:=hown.form (by omega)
  have hsame:∀ j,j<W.heap.size→j≠w1.heap.size→vo.ownBlock≠some j→(W2.setCell ⟨w1.heap.size,0,none⟩ (.slice (some ⟨g',0,none⟩) (pre.length+1) c')).heap[j]?=W.heap[j]?:=fun j h1 h2 h3=>by
   rw[Below.heap_setCell W2 ⟨w1.heap.size,0,none⟩ _ j h2,hgr.block j (by simp;omega) (fun e=>h3 e.symm)]
   exact Below.heap_alloc _ _ _ (by omega)
  have hsz2:W.heap.size≤W2.heap.size:=by have:=hgr.size;simp at this;omega
  have HKP:Hid (KeepsFrom w3.heap.size W (W2.setCell ⟨w1.heap.size,0,none⟩ (.slice (some ⟨g',0,none⟩) (pre.length+1) c'))):=Lib.hid ⟨by simpa[World.setCell] using hsz2,fun j o hj ho hc=>(hsame j (Array.getElem?_eq_some_iff.1 ho).1 (by omega) (fun e=>by
   rcases H4.out.2 with⟨rfl,_⟩|⟨g,cap,cur,rfl,q1,q2,rest⟩
   ·cases e
   ·simp only[Value.ownBlock,Option.some.injEq]at e
    subst e
    rw[ho]at q2
    cases q2
    cases hc)).trans ho⟩
  have HSI:Hid (SegI w.heap.size m T level w1.heap.size (w1.heap.size+1) w3.heap.size fs vf w (pre ++ [x]) st (W2.setCell ⟨w1.heap.size,0,none⟩ (.slice (some ⟨g',0,none⟩) (pre.length+1) c'))):=Lib.hid (by
   refine⟨vh,_,?_,KO2.set 0 _,?_,?_,?_⟩
   ·exact H1.out.keep (fun j h1 h2=>hsame j (by omega) (by omega) (fun e=>by have:=(H4.out.lt j e).1;omega)) (fun j hj=>hsame j (H1.out.row.lt j hj).2 (fun e=>row_blk H1.out.row H2.out (by decide) (e▸hj)) (row_row H1.out.row H4.out (by decide) j hj))
   ·exact(hsame (w1.heap.size+1) H3.out.lt (by omega) (row_blk H4.out H3.out (by decide))).trans H3.out
   ·have e1:(pre ++ [x]).length=pre.length+1:=by simp
    have e2:(pre ++ [x]).flatMap strC=pre.flatMap strC++strC x:=by simp
    rw[e1,e2]
    exact own_same hown (fun j hj=>Below.heap_setCell W2 ⟨w1.heap.size,0,none⟩ _ j (fun e=>by have e3:j=w1.heap.size:=e;have:=(hown.lt j hj).1;omega))
   ·have h6:Below w.heap.size w W2:=(H5.out.alloc H5.out.size _).grown hgr (by have:=H5.out.size;simp;omega) (fun r e=>by have:=(H4.out.lt r e).1;have:=hb1.out.size;omega)
    exact h6.setCell (p:=⟨w1.heap.size,0,none⟩) hb1.out.size _)
  have c1:=KO2.cell 0
  have f1:=KO2.frozen 0
  clear hown hgr hsame KO2 hsz2 c0 f0 hlen hl0
  gi_wp2
  exact⟨HKP.out,HSI.out⟩
 case done =>
  intro D W pre st hD hgo hnx ⟨vh,vo,h1,h2,h3,h4,h5⟩ hdf
  have hlen:=goes_len HF0.out hgo
  have hl0:=left0 (fs:=fs) HF0.out.n
  obtain⟨A',c',rfl⟩:=own_form h4
  have c0:=h2.cell 0
  have HR:=Lib.hid (runs_of hgo)
  have HNX:=Lib.hid hnx
  have H4:=Lib.hid h4
  have H5:=Lib.hid h5
  clear h1 h2 h3 h4 h5 hgo hnx
  gi_wp2
  refine⟨by simp,.inl ⟨_,_,rfl,run_takeDeferred hdf,?_⟩⟩
  refine⟨.tuple #[.slice A' pre.length c',.int .i64 0],by simp[results,Tryz.results9,go_sem],A',c',pre,st,rfl,HR.out,HNX.out,?_,?_,?_,?_,by omega⟩
  ·exact cels_own ((ck_of (grownBy_putObj' W D (.deferred none)) (fun r e=>by cases e;exact⟨hD,_,hdf,rfl⟩)).own H4.out)
  ·exact H5.out.grown (grownBy_putObj' _ _ _) H5.out.size (fun r e=>by cases e;have:=hb1.out.size;omega)
  ·intro g o e
   subst e
   have:=(H4.out.lt g rfl).1
   have:=hb1.out.size
   omega
  ·rcases H4.out.2 with⟨e1,e2⟩|⟨g,cap,cur,e1,_,_,e2,_⟩
   ·omega
   ·cases e1;exact e2
theorem next_small (level:Nat) (fs:List Fl) (st:Mst):(nextP level fs st).1.1.size≤256:=by
 unfold nextP
 split
 ·split
  ·simp only[ByteArray.size_extract];omega
  ·exact Nat.zero_le _
 ·simp only[ByteArray.size_extract];omega
theorem runs_small {level:Nat} {fs:List Fl} {st st':Mst} {xs:List ByteArray} (h:Runs (stepP level fs) st xs st'):∀ x∈xs,x.size≤256:=by
 induction h with
 | nil s=>intro x hx;cases hx
 | @cons s1 s2 s3 x0 l h1 _ ih =>
  intro x hx
  rcases List.mem_cons.1 hx with rfl|hx
  ·have h3:=step_some h1
   have h2:=next_small level fs s1
   rw[h3]at h2
   exact h2
  ·exact ih x hx
def joinS (xs:List ByteArray):ByteArray:=⟨(Lib.join (xs.map (·.data.toList)) []).toArray⟩
theorem join_flat:∀ l:List (List UInt8),Lib.join l []=l.flatten
 | []=>rfl
 | x::r=>by
  rw[Lib.join_cons,List.flatten_cons]
  congr 1
  unfold Lib.joinTail
  simp
theorem joinS_len (xs:List ByteArray) (h:∀ x∈xs,x.size≤256):(Lib.join (xs.map (·.data.toList)) []).length≤256*xs.length:=by
 rw[join_flat]
 induction xs with
 | nil=>simp
 | cons x xs ih =>
  have h1:=h x List.mem_cons_self
  have h2:=ih (fun y hy=>h y (List.mem_cons_of_mem _ hy))
  rw[List.map_cons,List.flatten_cons,List.length_append,List.length_cons]
  have:x.data.toList.length=x.size:=rfl
  omega
def MakeAt (level:Nat) (fs:List Fl) (w:World) (e:Ending) (w':World):Prop :=
 ∃ xs st,e= .returned (.tuple #[.string (joinS xs),.int .i64 0])∧Runs (stepP level fs) start0 xs st∧stepP level fs st=none∧Below w.heap.size w w'
theorem make_calls2 (A:Option Addr) (c:Nat) (fs:List Fl) (level:Nat) (w:World) (hA:Cels w A (fs.flatMap flC)) (hn:fs.length≤500) (hok:∀ f∈fs,f.ok) (hG:Globs w.heap.size w) (hl:level≤9) (hc:(checkP fs level).2=0) :
  Calls Tryz.prog 13 #[.slice A fs.length c,.int .i64 (level:Int)] w fun e w'=>MakeAt level fs w e w':=by
 have HS:=Lib.hid (segs_calls A c fs level w hA hn hok hG hl hc)
 obtain⟨n,hn0⟩:∃ n,fs.length=n:=⟨_,rfl⟩
 rw[hn0]at HS
 rw[hn0]
 clear hA hn hok hG hc hn0
 go_enter Tryz.func13,Tryz.ntmps13
 go_wp2_with fail
 refine HS.out.mono ?_
 rintro e w1 ⟨A',c',xs,st,rfl,hr,hx,hc1,hb1,hA',hcap,hlen⟩
 have HR:=Lib.hid hr
 have HX:=Lib.hid hx
 have HB:=Lib.hid hb1
 have hsm:=runs_small hr
 have hjl:=joinS_len xs hsm
 cases xs with
 | nil =>
  have HJ:=Lib.hid (Tryz.strings_Join_none A' c' ⟨#[]⟩ w1)
  have hj:joinS []=⟨#[]⟩:=rfl
  clear hr hx hc1 hb1 hA' hcap hlen hsm hjl
  go_wp2_with fail
  refine HJ.out.mono ?_
  rintro e w2 ⟨rfl,rfl⟩
  go_wp2
  go_ret2
  exact⟨[],st,rfl,HR.out,HX.out,HB.out⟩
 | cons x xs =>
  obtain⟨g,o,rfl,hc0⟩:=hc1 0 (by simp[strC])
  have HJ:=Lib.hid (Tryz.strings_Join g o c' (x::xs) ⟨#[]⟩ w1 (fun j y hy=>by
   obtain⟨hj,rfl⟩:=List.getElem?_eq_some_iff.1 hy
   obtain⟨g2,o2,e2,h2⟩:=strs_cells hc1 j hj
   cases e2
   exact h2) (World.block_lt_of_cell? w1 _ hc0) (by omega) hcap (by
    show(Lib.join ((x::xs).map (·.data.toList)) []).length≤_
    omega))
  have hjj:(⟨(Lib.join ((x::xs).map (·.data.toList)) (⟨#[]⟩:ByteArray).data.toList).toArray⟩:ByteArray)=joinS (x::xs):=rfl
  obtain⟨N,hN⟩:∃ N,(x::xs).length=N:=⟨_,rfl⟩
  rw[hjj,hN]at HJ
  rw[hN]
  clear hr hx hc1 hb1 hA' hcap hlen hsm hjl hjj hN hc0
  go_wp2_with fail
  refine HJ.out.mono ?_
  rintro e w2 ⟨rfl,hb2⟩
  have HB2:=Lib.hid (HB.out.trans (hb2.mono HB.out.size))
  clear hb2
  go_wp2
  go_ret2
  exact⟨x::xs,st,rfl,HR.out,HX.out,HB2.out⟩
end Go.Proofs.YtgiogemkomgkhaaGreatDoor.Ar
