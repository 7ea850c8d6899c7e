/-
  NameLists' walk: All answers as the reference's pairs say, for every list of names.
-/
import Derived.RangeFuncNested
import Derived.RangeFuncBound
import Derived.RangeFuncCalls
import Derived.RangeFuncLeaves
import Derived.Shelf.Abstract
import Derived.Shelf.RegionOpen
import Derived.WalkKit
import Derived.OwnWalkIn
import Derived.TacticsInMore
import Derived.LoopNIn
import Derived.LoopIn
import GoSem.Core.Utf8
import Derived.Lib.Strings
import Derived.Test.YtgiogemkomgkhaaGreatDoorProg
import Derived.Test.YtgiogemkomgkhaaGreatDoorKShelf
import Derived.Sort.LoopGhostIn
import Derived.Lib.IndexLaws
import Derived.Lib.Hide
import Derived.WalkSpells
import Derived.WalkLawsBesides
import Derived.Lib.ValidU
import Derived.Shelf.GgClosure.StringsIndexFunc
import Derived.Below
import Derived.Deep.DeepCutAuto
import Derived.Maps.Views
import Derived.Maps.OwnOps
import Derived.StringKeys
import Derived.BigQuiet
import Derived.Deep.QuietTactic
import Derived.StillTailTactics
import Derived.ProofKit
import Derived.SizedLaws
import Derived.SliceStrings
import Derived.ChangeSlices
import Derived.Carry
set_option linter.unusedVariables false
set_option linter.unusedSimpArgs false
namespace Go.Proofs.YtgiogemkomgkhaaGreatDoor.Rb
open Go Go.RowKit
theorem cell_new_l (W:World) (v:Value) (t:TypeId):(W.alloc (.cells #[v] t)).cell? ⟨W.heap.size,0,none⟩=some v∧(W.alloc (.cells #[v] t)).frozen? ⟨W.heap.size,0,none⟩=false:=by
 have h:=World.alloc_heap_new W (.cells #[v] t)
 constructor
 ·simp only[World.cell?]
  rw[h]
  rfl
 ·simp only[World.frozen?]
  rw[h]
  simp
theorem cell_alloc_l {W:World} {a:Addr} {v:Value} (o:Obj) (h:W.cell? a=some v):(W.alloc o).cell? a=some v:=cell_kept h (World.grownBy_alloc W o none) (fun r e=>by cases e)
theorem frozen_alloc_l {W:World} {a:Addr} {v:Value} (o:Obj) (h:W.cell? a=some v) (hf:W.frozen? a=false):(W.alloc o).frozen? a=false:=(frozen_kept h (World.grownBy_alloc W o none) (fun r e=>by cases e)).trans hf
def SameBoxes (B m:Nat) (W W':World):Prop:=∀ k,B≤k→k<B+m→W'.heap[k]?=W.heap[k]?
theorem SameBoxes.refl (B m:Nat) (W:World):SameBoxes B m W W:=fun _ _ _=>rfl
theorem SameBoxes.trans {B m:Nat} {X Y Z:World} (h:SameBoxes B m X Y) (k:SameBoxes B m Y Z):SameBoxes B m X Z:=fun i h1 h2=>(k i h1 h2).trans (h i h1 h2)
theorem SameBoxes.cell {B m:Nat} {X Y:World} (h:SameBoxes B m X Y) {k o:Nat} (h1:B≤k) (h2:k<B+m):Y.cell? ⟨k,o,none⟩=X.cell? ⟨k,o,none⟩:=World.cell?_of_block (a:=⟨k,o,none⟩) (h k h1 h2)
theorem SameBoxes.of_grownBy {B m:Nat} {X Y:World} {row:Option Nat} (hg:X.grownBy Y row) (hB:B+m≤X.heap.size) (hr:∀ r,row=some r→r<B∨B+m≤r):SameBoxes B m X Y:=fun k h1 h2 =>
 hg.block k (by omega) (fun e=>by have:=hr k e.symm;omega)
def Aside (B m n₀:Nat) (W:World) (row:Option Nat):Prop:=∀ r,row=some r→(B≤r∧r<B+m)∨(n₀≤r∧∃ o:Obj,W.heap[r]?=some o∧o.isCells=false)
def Quiet {β:Type} (B m n₀:Nat) (I:β→World→Prop):Prop:=∀ s W W' row,I s W→W.grownBy W' row→Aside B m n₀ W row→I s W'
def SeqBox {α:Type} (F:Fence) (n:Nat) (P:Program) (g:Nat) (lb:Array Value) (enc:α→Value) (B m:Nat) (xs:List α) (w:World):Prop :=
 ∀ (l:Nat) (J Jx:List α→World→Prop) (W:World),SameBoxes B m w W→B+m≤W.heap.size →
  (∀ s X Y row,J s X→X.grownBy Y row→(∀ r,row=some r→B≤r∧r<B+m)→J s Y) →
  (∀ pre x W1,J pre W1→pre ++ [x] <+: xs→YieldAt F (n - 1) P l #[enc x] W1 fun e W' =>
   (e= .returned (.bool true)∧J (pre ++ [x]) W'∧SameBoxes B m W1 W')∨(e= .returned (.bool false)∧Jx (pre ++ [x]) W')) →
  (∀ pre W1,J pre W1→B+m≤W1.heap.size) →
  J [] W →
  CallsIn F n P g (#[.func (.yield l) #[] #[]]++lb) W fun e W'=>(∃ v,e= .returned v)∧(J xs W'∨∃ pre,(∃ x,pre ++ [x] <+: xs)∧∃ x,Jx (pre ++ [x]) W')
def roundEnds {α:Type} (B m n₀:Nat) (I:List α→World→Prop) (Ix:Code→List α→World→Prop) (xs:List α) (W:World):Exit→Act→World→Prop
 | .normal,_,W'=>KeepsFrom n₀ W W'∧SameBoxes B m W W'∧I xs W'
 | .ret,_,W'=>KeepsFrom n₀ W W'∧Ix .ret xs W'
 | .exit id,_,W'=>KeepsFrom n₀ W W'∧Ix (.exit id) xs W'
 | .goto t,_,W'=>KeepsFrom n₀ W W'∧Ix (.goto t) xs W'
 | .panic _,_,_=>False
 | .outgrown,_,_=>False
variable {F:Fence} {n:Nat} {P:Program} {w:World}
theorem Quiet.alloc {β:Type} {B m n₀:Nat} {I:β→World→Prop} (h:Quiet B m n₀ I) {s:β} {W:World} (o:Obj) (hs:I s W):I s (W.alloc o) :=
 h s W _ none hs (World.grownBy_alloc W o none) (fun r e=>by cases e)
theorem Quiet.put {β:Type} {B m n₀:Nat} {I:β→World→Prop} (h:Quiet B m n₀ I) {s:β} {W:World} {l:Nat} {o:Obj} (o':Obj) (hs:I s W) (hl:n₀≤l) (ho:W.heap[l]?=some o) (hc:o.isCells=false):I s (W.putObj l o') :=
 h s W _ (some l) hs (grownBy_putObj' W l o') (fun r e=>by cases e;exact .inr ⟨hl,o,ho,hc⟩)
theorem range_box {α:Type} {g:Operand} {ps:Array Tmp} {assign body:Code} {Q:Exit→Act→World→Prop} {a:Act}
  (hro:F.round=none) (h1:1≤n) {gf:Nat} {lb:Array Value} (hg:a.eval g= .func (.func gf) #[] lb) (hFg:F.fn gf) (eg:∀ args w,(callFunc gf args).run P w= .ok (.enter gf args) w)
  {enc:α→Value} {B m:Nat} {xs:List α} {w0:World} (hseq:SeqBox F (n - 1) P gf lb enc B m xs w0) (hw0:SameBoxes B m w0 w) (hBm:B+m≤w.heap.size) (hps:ps.size=1)
  (I:List α→World→Prop) (Ix:Code→List α→World→Prop) (hI:Quiet B m w.heap.size I) (hIx:∀ c,Quiet B m w.heap.size (Ix c)) (h0:I [] w) (a₁:α→Act)
  (hassign:∀ (l:Nat) (x:α) (W:World) (K:Act→World→Prop),K (a₁ x) W →
   assign.wpIn (F.inRound l) (n - 1 - 1) P (Exit.then K (fun _ _ _=>False)) { tmps:=(ps.zip #[enc x]).foldl (fun t (p,v)=>t.setIfInBounds p v) a.tmps,defers:= [] } W)
  (hbody:∀ (l:Nat) (pre:List α) (x:α) (W:World),w.heap.size≤W.heap.size→I pre W→pre ++ [x] <+: xs→body.wpIn (F.inRound l) (n - 1 - 1) P (roundEnds B m w.heap.size I Ix (pre ++ [x]) W) (a₁ x) W)
  (hdone:∀ (D:Nat) (W:World),w.heap.size≤D→I xs W→W.heap[D]?=some (.deferred (some []))→Q .normal { a with defers:= { target:= .collected D,args:= #[] }::a.defers } W)
  (hstop:∀ (D:Nat) (c:Code) (pre:List α) (x:α) (W:World),w.heap.size≤D→Ix c (pre ++ [x]) W→W.heap[D]?=some (.deferred (some []))→c.wpIn F n P Q { a with defers:= { target:= .collected D,args:= #[] }::a.defers } W) :
  (Code.rangeFunc g ps assign body).wpIn F n P Q a w:=by
 refine wpIn_rangeFunc ?_
 intro fn hfn
 rw[hro]
 obtain⟨rec,hrec⟩:∃ rec:LoopState→Option Code→Loop,rec=fun st pe=> { state:=st,pending:=pe,fn,tmps:=a.tmps,params:=ps,assign,body,defers:=w.heap.size }:=⟨_,rfl⟩
 obtain⟨W1,hW1⟩:∃ W1,(w.alloc (.deferred (some []))).alloc (.loop (rec .ready none))=W1:=⟨_,rfl⟩
 have hsz:W1.heap.size=w.heap.size+2:=by rw[← hW1];simp
 have hL:W1.heap[w.heap.size+1]?=some (.loop (rec .ready none)):=by
  rw[← hW1];have:=World.alloc_heap_new (w.alloc (.deferred (some []))) (.loop (rec .ready none));rwa[World.size_alloc]at this
 have hK:W1.heap[w.heap.size]?=some (.deferred (some [])):=by
  rw[← hW1];exact(Below.heap_alloc _ _ _ (by simp)).trans (World.alloc_heap_new w _)
 have hI1:I [] W1:=by rw[← hW1];exact hI.alloc _ (hI.alloc _ h0)
 have hS1:SameBoxes B m w W1:=fun k _ hk=>by
  rw[← hW1];exact(Below.heap_alloc _ _ _ (by simp;omega)).trans (Below.heap_alloc _ _ _ (by omega))
 refine⟨w.heap.size+1,[{ target:= .collected w.heap.size,args:= #[] }],W1,{ target:= .fn (.func gf) lb,args:= #[.func (.yield (w.heap.size+1)) #[] #[]] },W1,gf,
  #[.func (.yield (w.heap.size+1)) #[] #[]]++lb,W1,by rw[← hW1,hrec];exact run_enterLoop_outer _ _ _ _ _,by simp only[resolve,hg];simp[go_sem],?_,by simp[invoke,go_sem,eg],fun _=>h1,?_⟩
 ·intro f' hf';simp[Target.leads]at hf';subst hf';exact hFg
 let Bk (st:LoopState) (pe:Option Code) (W:World):Prop:=W.heap[w.heap.size+1]?=some (.loop (rec st pe))∧W.heap[w.heap.size]?=some (.deferred (some []))
 have bkLt:∀ {st pe W},Bk st pe W→w.heap.size+1<W.heap.size:=fun h=>(Array.getElem?_eq_some_iff.1 h.1).1
 have bkBox:∀ {st pe X Y row},Bk st pe X→X.grownBy Y row→(∀ r,row=some r→B≤r∧r<B+m)→Bk st pe Y:=fun h hg' hr=>by
  have:=bkLt h
  exact⟨(hg'.block _ (by omega) (fun e=>by have:=hr _ e.symm;omega)).trans h.1,(hg'.block _ (by omega) (fun e=>by have:=hr _ e.symm;omega)).trans h.2⟩
 refine(hseq (w.heap.size+1) (fun pre W=>I pre W∧Bk .ready none W) (fun pre W=>∃ c,Ix c pre W∧Bk .done (some c) W) W1 (hw0.trans hS1) (by omega)
  (fun s X Y row hs hg' hr=>⟨hI s X Y row hs.1 hg' (fun r e=> .inl (hr r e)),bkBox hs.2 hg' hr⟩) ?_ (fun pre W h=>by have:=bkLt h.2;omega) ⟨hI1,hL,hK⟩).mono ?_
 ·rintro pre x W ⟨hi,hb⟩ hpre
  have hlt:=bkLt hb
  have hy:=run_yield (P:=P) (args:= #[enc x]) hb.1 (by rw[hrec];simp[hps])
  rw[hrec]at hy
  refine⟨fn,_,assign,body,hy,roundIn_of_wpIn hfn (hassign _ x W _ ?_)⟩
  clear hy
  refine⟨_,run_beginRound hb.1 (by rw[hrec]),?_⟩
  obtain⟨X,hX⟩:∃ X,W.putObj (w.heap.size+1) (.loop { rec .ready none with state:= .busy })=X:=⟨_,rfl⟩
  have hXl:X.heap[w.heap.size+1]?=some (.loop { rec .ready none with state:= .busy }):=by rw[← hX];exact World.putObj_heap_same hlt
  have hXk:X.heap[w.heap.size]?=some (.deferred (some [])):=by rw[← hX];exact(World.putObj_heap_other (by omega)).trans hb.2
  have hXs:SameBoxes B m W X:=fun k _ hk=>by rw[← hX];exact World.putObj_heap_other (by omega)
  have hXi:I pre X:=by rw[← hX];exact hI.put _ hi (by omega) hb.1 rfl
  have hXz:w.heap.size≤X.heap.size:=by have:=(Array.getElem?_eq_some_iff.1 hXl).1;omega
  rw[hX]
  refine wpIn_mono (hbody _ pre x X hXz hXi hpre) ?_
  have fin:∀ (jump:Option Code) (Y:World),KeepsFrom w.heap.size X Y →
    (Instr.endRound (w.heap.size+1) jump).run P Y= .ok (.bool jump.isNone) (Y.putObj (w.heap.size+1) (.loop (rec (if jump.isNone then .ready else .done) jump))) ∧
    Y.heap[w.heap.size+1]?=some (.loop { rec .ready none with state:= .busy })∧Bk (if jump.isNone then .ready else .done) jump (Y.putObj (w.heap.size+1) (.loop (rec (if jump.isNone then .ready else .done) jump))):=fun jump Y hk3=>by
   have hl3:=hk3.same _ _ (by omega) hXl rfl
   have hr:=run_endRound (P:=P) jump hl3
   refine⟨by rw[hrec]at hr ⊢;exact hr,hl3,World.putObj_heap_same (Array.getElem?_eq_some_iff.1 hl3).1,(World.putObj_heap_other (by omega)).trans (hk3.same _ _ (Nat.le_refl _) hXk rfl)⟩
  have boxPut:∀ (Y:World) (o:Obj),SameBoxes B m Y (Y.putObj (w.heap.size+1) o):=fun Y o k _ hk=>World.putObj_heap_other (by omega)
  rintro e a3 Y hp
  cases e with
  | normal =>
   obtain⟨hk3,hs3,hi3⟩:=hp
   obtain⟨hr,hl3,hb3⟩:=fin none Y hk3
   exact⟨_,_,hr,.inl ⟨rfl,⟨hI.put _ hi3 (by omega) hl3 rfl,hb3⟩,(hXs.trans hs3).trans (boxPut _ _)⟩⟩
  | ret =>
   obtain⟨hk3,hi3⟩:=hp
   obtain⟨hr,hl3,hb3⟩:=fin (some .ret) Y hk3
   exact⟨_,_,hr,.inr ⟨rfl,.ret,(hIx _).put _ hi3 (by omega) hl3 rfl,hb3⟩⟩
  | exit id =>
   obtain⟨hk3,hi3⟩:=hp
   obtain⟨hr,hl3,hb3⟩:=fin (some (.exit id)) Y hk3
   exact⟨_,_,hr,.inr ⟨rfl,.exit id,(hIx _).put _ hi3 (by omega) hl3 rfl,hb3⟩⟩
  | goto t =>
   obtain⟨hk3,hi3⟩:=hp
   obtain⟨hr,hl3,hb3⟩:=fin (some (.goto t)) Y hk3
   exact⟨_,_,hr,.inr ⟨rfl,.goto t,(hIx _).put _ hi3 (by omega) hl3 rfl,hb3⟩⟩
  | panic ch=>exact hp.elim
  | outgrown=>exact hp.elim
 ·rintro e W2 ⟨⟨v,rfl⟩,(⟨hi,hb⟩|⟨pre,_,x,c,hi,hb⟩)⟩
  ·exact⟨none,_,by have:=run_endLoop (P:=P) hb.1 (by rw[hrec];simp);rw[hrec]at this;exact this,hdone _ _ (Nat.le_refl _) (hI.put _ hi (by omega) hb.1 rfl) ((World.putObj_heap_other (by omega)).trans hb.2)⟩
  ·exact⟨some c,_,by have:=run_endLoop (P:=P) hb.1 (by rw[hrec];simp);rw[hrec]at this;exact this,hstop _ c pre x _ (Nat.le_refl _) ((hIx c).put _ hi (by omega) hb.1 rfl) ((World.putObj_heap_other (by omega)).trans hb.2)⟩
end Go.Proofs.YtgiogemkomgkhaaGreatDoor.Rb
namespace Go.Proofs.YtgiogemkomgkhaaGreatDoor.Nm
open Go
def byt (s:ByteArray) (i:Nat):Nat:=(s.get! i).toNat
theorem byt_lt (s:ByteArray) (i:Nat):byt s i<256:=by
 unfold byt
 exact(s.get! i).toNat_lt
theorem byt_at (s:ByteArray) (i:Nat) (h:i<s.size):byt s i=s[i].toNat:=by
 unfold byt
 congr 1
 have h':i<s.data.size:=h
 show s.data[i]! = _
 rw[getElem!_pos s.data i h']
 rfl
def oddR (r:Nat):Bool:=decide (r<32) || decide (r=127) || decide (r=92)
def okSign (s:ByteArray) (i:Nat):Bool:= !decide (Utf8.decode s i=(65533,1)) && !oddR (Utf8.decode s i).1
def pv (s:ByteArray) (i:Nat) (v:Int):Nat→Int
 | 0=>v
 | 1=>v
 | k+2=>64*pv s i v (k+1)+(byt s (i+(k+1)):Int) - 128
def Class (c:Nat) (n:Nat) (v least:Int):Prop :=
 (c<128∧n=1∧v=c∧least=0)∨(192≤c∧c<224∧n=2∧v=c - 192∧least=128) ∨
 (224≤c∧c<240∧n=3∧v=c - 224∧least=2048)∨(240≤c∧c<248∧n=4∧v=c - 240∧least=65536)
def Fine (v least:Int):Prop:=¬ v<least∧¬ 1114111<v∧¬ (55296≤v∧v≤57343)∧¬ v<32∧¬ v=127∧¬ v=92
theorem dec1 (s:ByteArray) (i:Nat) (h:byt s i<128):Utf8.decode s i=(byt s i,1):=by
 unfold byt at h ⊢
 unfold Utf8.decode
 simp only[Nat.add_zero]
 rw[if_pos (by omega)]
theorem dec_none (s:ByteArray) (i:Nat) (h:128≤byt s i) (h2:byt s i<192∨248≤byt s i):Utf8.decode s i=(65533,1):=by
 unfold byt at h h2
 unfold Utf8.decode
 simp only[Nat.add_zero]
 rw[if_neg (by omega),if_neg,if_neg,if_neg]
 ·rfl
 all_goals
  simp only[Bool.and_eq_true,beq_iff_eq,decide_eq_true_eq]
  omega
theorem dec2 (s:ByteArray) (i:Nat) (r:Int) (hr:r=64*((byt s i:Int) - 192)+(byt s (i+1):Int) - 128) (h:192≤byt s i) (h2:byt s i<224) :
  ((i+1<s.size∧128≤byt s (i+1)∧byt s (i+1)<192)→128≤r→Utf8.decode s i=(r.toNat,2))∧(¬ ((i+1<s.size∧128≤byt s (i+1)∧byt s (i+1)<192)∧128≤r)→Utf8.decode s i=(65533,1)):=by
 have b1:=byt_lt s (i+1)
 have e0:(s.get! i).toNat=byt s i:=rfl
 have e1:(s.get! (i+1)).toNat=byt s (i+1):=rfl
 unfold Utf8.decode
 simp only[Nat.add_zero,e0,e1]
 rw[if_neg (by omega)]
 constructor
 ·intro hc hl
  rw[if_pos (by simp[hc];omega),if_pos (by omega)]
  exact Prod.ext (by simp;omega) rfl
 ·intro hn
  by_cases hc:(i+1<s.size∧128≤byt s (i+1)∧byt s (i+1)<192)
  ·rw[if_pos (by simp[hc];omega),if_neg (by omega)]
   rfl
  ·rw[if_neg (by simp only[Bool.and_eq_true,decide_eq_true_eq,beq_iff_eq];omega),if_neg (by simp;omega),if_neg (by simp;omega)]
   rfl
theorem valid_iff (r:Nat) (h:r≤1114111):Utf8.valid (r:Int)=decide (¬ (55296≤r∧r≤57343)):=by
 unfold Utf8.valid
 rw[Bool.eq_iff_iff]
 simp only[Bool.or_eq_true,Bool.and_eq_true,decide_eq_true_eq]
 omega
theorem dec3 (s:ByteArray) (i:Nat) (r:Int) (hr:r=64*(64*((byt s i:Int) - 224)+(byt s (i+1):Int) - 128)+(byt s (i+2):Int) - 128) (h:224≤byt s i) (h2:byt s i<240) :
  ((i+1<s.size∧128≤byt s (i+1)∧byt s (i+1)<192)→(i+2<s.size∧128≤byt s (i+2)∧byt s (i+2)<192)→2048≤r→¬ (55296≤r∧r≤57343)→Utf8.decode s i=(r.toNat,3)) ∧
  (¬ ((i+1<s.size∧128≤byt s (i+1)∧byt s (i+1)<192)∧(i+2<s.size∧128≤byt s (i+2)∧byt s (i+2)<192)∧2048≤r∧¬ (55296≤r∧r≤57343))→Utf8.decode s i=(65533,1)):=by
 have b1:=byt_lt s (i+1)
 have b2:=byt_lt s (i+2)
 have e0:(s.get! i).toNat=byt s i:=rfl
 have e1:(s.get! (i+1)).toNat=byt s (i+1):=rfl
 have e2:(s.get! (i+2)).toNat=byt s (i+2):=rfl
 unfold Utf8.decode
 simp only[Nat.add_zero,e0,e1,e2]
 rw[if_neg (by omega),if_neg (by simp;omega)]
 constructor
 ·intro hc hc2 hl hs
  rw[if_pos (by simp[hc,hc2];omega),valid_iff _ (by omega),if_pos (by simp;omega)]
  exact Prod.ext (by simp;omega) rfl
 ·intro hn
  by_cases hc:(i+1<s.size∧128≤byt s (i+1)∧byt s (i+1)<192)∧(i+2<s.size∧128≤byt s (i+2)∧byt s (i+2)<192)
  ·rw[if_pos (by simp[hc];omega),valid_iff _ (by omega),if_neg (by simp;omega)]
   rfl
  ·rw[if_neg (by simp only[Bool.and_eq_true,decide_eq_true_eq,beq_iff_eq];omega),if_neg (by simp;omega)]
   rfl
theorem dec4 (s:ByteArray) (i:Nat) (r:Int) (hr:r=64*(64*(64*((byt s i:Int) - 240)+(byt s (i+1):Int) - 128)+(byt s (i+2):Int) - 128)+(byt s (i+3):Int) - 128) (h:240≤byt s i) (h2:byt s i<248) :
  ((i+1<s.size∧128≤byt s (i+1)∧byt s (i+1)<192)→(i+2<s.size∧128≤byt s (i+2)∧byt s (i+2)<192)→(i+3<s.size∧128≤byt s (i+3)∧byt s (i+3)<192)→65536≤r→r≤1114111→Utf8.decode s i=(r.toNat,4)) ∧
  (¬ ((i+1<s.size∧128≤byt s (i+1)∧byt s (i+1)<192)∧(i+2<s.size∧128≤byt s (i+2)∧byt s (i+2)<192)∧(i+3<s.size∧128≤byt s (i+3)∧byt s (i+3)<192)∧65536≤r∧r≤1114111)→Utf8.decode s i=(65533,1)):=by
 have b1:=byt_lt s (i+1)
 have b2:=byt_lt s (i+2)
 have b3:=byt_lt s (i+3)
 have e0:(s.get! i).toNat=byt s i:=rfl
 have e1:(s.get! (i+1)).toNat=byt s (i+1):=rfl
 have e2:(s.get! (i+2)).toNat=byt s (i+2):=rfl
 have e3:(s.get! (i+3)).toNat=byt s (i+3):=rfl
 unfold Utf8.decode
 simp only[Nat.add_zero,e0,e1,e2,e3]
 rw[if_neg (by omega),if_neg (by simp;omega),if_neg (by simp;omega)]
 constructor
 ·intro hc hc2 hc3 hl hs
  rw[if_pos (by simp[hc,hc2,hc3];omega),valid_iff _ (by omega),if_pos (by simp;omega)]
  exact Prod.ext (by simp;omega) rfl
 ·intro hn
  by_cases hc:(i+1<s.size∧128≤byt s (i+1)∧byt s (i+1)<192)∧(i+2<s.size∧128≤byt s (i+2)∧byt s (i+2)<192)∧(i+3<s.size∧128≤byt s (i+3)∧byt s (i+3)<192)
  ·rw[if_pos (by simp[hc];omega),if_neg]
   ·rfl
   ·simp only[Utf8.valid,Bool.and_eq_true,Bool.or_eq_true,decide_eq_true_eq]
    omega
  ·rw[if_neg (by simp only[Bool.and_eq_true,decide_eq_true_eq,beq_iff_eq];omega)]
   rfl
theorem bad_sign (s:ByteArray) (i:Nat) (h:Utf8.decode s i=(65533,1)):okSign s i=false:=by
 unfold okSign
 simp[h]
theorem short_bad (s:ByteArray) (i n:Nat) (v least:Int) (hi:i<s.size) (hc:Class (byt s i) n v least) (h:s.size<i+n):okSign s i=false:=by
 apply bad_sign
 rcases hc with⟨h1,rfl,rfl,rfl⟩|⟨h1,h2,rfl,rfl,rfl⟩|⟨h1,h2,rfl,rfl,rfl⟩|⟨h1,h2,rfl,rfl,rfl⟩
 ·omega
 ·exact(dec2 s i _ rfl h1 h2).2 (by omega)
 ·exact(dec3 s i _ rfl h1 h2).2 (by omega)
 ·exact(dec4 s i _ rfl h1 h2).2 (by omega)
theorem cont_bad (s:ByteArray) (i n k:Nat) (v least:Int) (hc:Class (byt s i) n v least) (hk:1≤k) (hkn:k<n) (h:byt s (i+k)<128∨192≤byt s (i+k)):okSign s i=false:=by
 apply bad_sign
 rcases hc with⟨h1,rfl,rfl,rfl⟩|⟨h1,h2,rfl,rfl,rfl⟩|⟨h1,h2,rfl,rfl,rfl⟩|⟨h1,h2,rfl,rfl,rfl⟩
 ·omega
 ·obtain rfl:k=1:=by omega
  exact(dec2 s i _ rfl h1 h2).2 (by omega)
 ·refine(dec3 s i _ rfl h1 h2).2 ?_
  rcases (by omega:k=1∨k=2) with rfl|rfl<;>omega
 ·refine(dec4 s i _ rfl h1 h2).2 ?_
  rcases (by omega:k=1∨k=2∨k=3) with rfl|rfl|rfl<;>omega
theorem no_class (s:ByteArray) (i:Nat) (h1:¬ byt s i<128) (h2:¬ (192≤byt s i∧byt s i<224)) (h3:¬ (224≤byt s i∧byt s i<240)) (h4:¬ (240≤byt s i∧byt s i<248)):okSign s i=false:=by
 apply bad_sign
 exact dec_none s i (by omega) (by omega)
theorem whole_sign (s:ByteArray) (i n:Nat) (v least:Int) (hi:i+n≤s.size) (hc:Class (byt s i) n v least) (h:∀ k,1≤k→k<n→128≤byt s (i+k)∧byt s (i+k)<192) :
  (Fine (pv s i v n) least→okSign s i=true∧(Utf8.decode s i).2=n)∧(¬ Fine (pv s i v n) least→okSign s i=false):=by
 have key:∀ r:Int,0≤r→Utf8.decode s i=(r.toNat,n)→(n=1→r<128)→(¬ oddR r.toNat=true→okSign s i=true∧(Utf8.decode s i).2=n):=by
  intro r h0 hd h1 ho
  refine⟨?_,by rw[hd]⟩
  unfold okSign
  rw[hd]
  simp only[Bool.and_eq_true,Bool.not_eq_true',decide_eq_false_iff_not,Prod.mk.injEq]
  exact⟨fun hh=>by have:=h1 hh.2;omega,by simpa using ho⟩
 have odd_iff:∀ r:Int,0≤r→(oddR r.toNat=true↔(r<32∨r=127∨r=92)):=by
  intro r h0
  unfold oddR
  simp only[Bool.or_eq_true,decide_eq_true_eq]
  omega
 have bad:∀ r:Int,Utf8.decode s i=(r.toNat,n)→oddR r.toNat=true→okSign s i=false:=by
  intro r hd ho
  unfold okSign
  rw[hd]
  simp[ho]
 rcases hc with⟨h1,rfl,rfl,rfl⟩|⟨h1,h2,rfl,rfl,rfl⟩|⟨h1,h2,rfl,rfl,rfl⟩|⟨h1,h2,rfl,rfl,rfl⟩
 ·have hd:Utf8.decode s i=(((byt s i:Nat):Int).toNat,1):=by rw[dec1 s i h1];rfl
  have e:pv s i (byt s i) 1=byt s i:=rfl
  rw[e]
  refine⟨fun hf=>key _ (by omega) hd (fun _=>by omega) ?_,fun hf=>bad _ hd ?_⟩
  ·rw[odd_iff _ (by omega)];unfold Fine at hf;omega
  ·rw[odd_iff _ (by omega)];unfold Fine at hf;omega
 ·have hb:=h 1 (by omega) (by omega)
  obtain⟨r,hr⟩:∃ r,pv s i (byt s i - 192) 2=r:=⟨_,rfl⟩
  have hrr:r=64*((byt s i:Int) - 192)+(byt s (i+1):Int) - 128:=hr.symm
  have hd:=dec2 s i r hrr h1 h2
  rw[hr]
  by_cases hl:128≤r
  ·replace hd:=hd.1 ⟨by omega,hb⟩ hl
   refine⟨fun hf=>key _ (by omega) hd (fun _=>by omega) ?_,fun hf=>bad _ hd ?_⟩
   ·rw[odd_iff _ (by omega)];unfold Fine at hf;omega
   ·rw[odd_iff _ (by omega)];unfold Fine at hf;omega
  ·replace hd:=hd.2 (fun h=>hl h.2)
   exact⟨fun hf=>absurd hf.1 (by omega),fun _=>bad_sign s i hd⟩
 ·have hb:=h 1 (by omega) (by omega)
  have hb2:=h 2 (by omega) (by omega)
  obtain⟨r,hr⟩:∃ r,pv s i (byt s i - 224) 3=r:=⟨_,rfl⟩
  have hrr:r=64*(64*((byt s i:Int) - 224)+(byt s (i+1):Int) - 128)+(byt s (i+2):Int) - 128:=hr.symm
  have hd:=dec3 s i r hrr h1 h2
  rw[hr]
  by_cases hl:2048≤r∧¬ (55296≤r∧r≤57343)
  ·replace hd:=hd.1 ⟨by omega,hb⟩ ⟨by omega,hb2⟩ hl.1 hl.2
   refine⟨fun hf=>key _ (by omega) hd (fun _=>by omega) ?_,fun hf=>bad _ hd ?_⟩
   ·rw[odd_iff _ (by omega)];unfold Fine at hf;omega
   ·rw[odd_iff _ (by omega)];unfold Fine at hf;omega
  ·replace hd:=hd.2 (fun h=>hl h.2.2)
   exact⟨fun hf=>absurd hf (by unfold Fine;omega),fun _=>bad_sign s i hd⟩
 ·have hb:=h 1 (by omega) (by omega)
  have hb2:=h 2 (by omega) (by omega)
  have hb3:=h 3 (by omega) (by omega)
  obtain⟨r,hr⟩:∃ r,pv s i (byt s i - 240) 4=r:=⟨_,rfl⟩
  have hrr:r=64*(64*(64*((byt s i:Int) - 240)+(byt s (i+1):Int) - 128)+(byt s (i+2):Int) - 128)+(byt s (i+3):Int) - 128:=hr.symm
  have hd:=dec4 s i r hrr h1 h2
  rw[hr]
  by_cases hl:65536≤r∧r≤1114111
  ·replace hd:=hd.1 ⟨by omega,hb⟩ ⟨by omega,hb2⟩ ⟨by omega,hb3⟩ hl.1 hl.2
   refine⟨fun hf=>key _ (by omega) hd (fun _=>by omega) ?_,fun hf=>bad _ hd ?_⟩
   ·rw[odd_iff _ (by omega)];unfold Fine at hf;omega
   ·rw[odd_iff _ (by omega)];unfold Fine at hf;omega
  ·replace hd:=hd.2 (fun h=>hl h.2.2.2)
   exact⟨fun hf=>absurd hf (by unfold Fine;omega),fun _=>bad_sign s i hd⟩
def goodGo:Nat→ByteArray→Nat→Bool
 | 0,_,_=>true
 | f+1,s,i=>if i<s.size then(if okSign s i then goodGo f s (i+(Utf8.decode s i).2) else false) else true
def goodB (s:ByteArray):Bool:=goodGo s.size s 0
end Go.Proofs.YtgiogemkomgkhaaGreatDoor.Nm
namespace Go.Proofs.YtgiogemkomgkhaaGreatDoor.Nm
open Go
def goodPart (p:List UInt8):Bool:= !(p == []) && !(p == [46]) && !(p == [46,46])
def splitGo:List UInt8→List UInt8→List (List UInt8)
 | cur,[]=> [cur]
 | cur,c::t=>if c=47 then cur::splitGo [] t else splitGo (cur ++ [c]) t
def parts (l:List UInt8):List (List UInt8):=splitGo [] l
def chk (cur l:List UInt8):Bool:=(splitGo cur l).all goodPart
theorem chk_nil (cur:List UInt8):chk cur []=goodPart cur:=by simp[chk,splitGo]
theorem chk_slash (cur t:List UInt8):chk cur (47::t)=(goodPart cur && chk [] t):=by simp[chk,splitGo]
theorem chk_other (cur t:List UInt8) (c:UInt8) (h:c≠47):chk cur (c::t)=chk (cur ++ [c]) t:=by simp[chk,splitGo,h]
def checkB (s:ByteArray):Bool:=decide (1≤s.size) && decide (s.size≤65535) && goodB s && chk [] s.toList
theorem drop_at (s:ByteArray) (k:Nat) (h:k<s.size):s.toList.drop k=s[k]::s.toList.drop (k+1):=by
 rw[Lib.toList_data]
 rw[List.drop_eq_getElem_cons (by simpa using h)]
 rfl
theorem size_toList (s:ByteArray):s.toList.length=s.size:=by
 rw[Lib.toList_data]
 rfl
theorem drop_end (s:ByteArray) (k:Nat) (h:s.size≤k):s.toList.drop k= []:=by
 apply List.drop_eq_nil_of_le
 rw[size_toList]
 exact h
theorem push_one (c s:ByteArray) (k:Nat) (h:k<s.size):(c++s.extract k (k+1)).toList=c.toList ++ [s[k]]∧(c++s.extract k (k+1)).size=c.size+1:=by
 have h':k<s.data.toList.length:=by simpa using h
 constructor
 ·rw[Lib.toList_data,Lib.toList_data,ByteArray.data_append,Array.toList_append,ByteArray.data_extract,Array.toList_extract]
  congr 1
  rw[List.extract_eq_take_drop]
  rw[List.drop_eq_getElem_cons h']
  simp
  rfl
 ·rw[ByteArray.size_append,ByteArray.size_extract]
  omega
theorem emp_toList:(⟨#[]⟩:ByteArray).toList= []:=by rw[Lib.toList_data]
theorem emp_size:(⟨#[]⟩:ByteArray).size=0:=rfl
theorem bad_part (p:List UInt8) (h:¬ goodPart p=true):(p.isEmpty=true∧(p == [])=true)∨(p.isEmpty=false∧(p == [])=false∧(p == [46])=true)∨(p.isEmpty=false∧(p == [])=false∧(p == [46])=false∧(p == [46,46])=true):=by
 unfold goodPart at h
 by_cases h1:p= []
 ·subst h1;exact .inl ⟨rfl,rfl⟩
 ·by_cases h2:p= [46]
  ·subst h2;exact .inr (.inl ⟨rfl,rfl,rfl⟩)
  ·by_cases h3:p= [46,46]
   ·subst h3;exact .inr (.inr ⟨rfl,rfl,rfl,rfl⟩)
   ·exact absurd (by simp[h1,h2,h3]) h
theorem good_part {p:List UInt8} (h:goodPart p=true):p.isEmpty=false∧(p == [])=false∧(p == [46])=false∧(p == [46,46])=false:=by
 simp only[goodPart,Bool.and_eq_true,Bool.not_eq_true']at h
 exact⟨by simpa using h.1.1,h.1.1,h.1.2,h.2⟩
end Go.Proofs.YtgiogemkomgkhaaGreatDoor.Nm
namespace Go.Proofs.YtgiogemkomgkhaaGreatDoor.Nm
open Go.RowKit Go.Shelf Rb
attribute [local go_sem] Oper.semAt_some
def strV (l:List UInt8):Value:= .string ⟨l.toArray⟩
theorem of_toList (s:ByteArray):(⟨s.toList.toArray⟩:ByteArray)=s:=by
 rw[Lib.toList_data]
theorem strV_toList (s:ByteArray):strV s.toList= .string s:=by
 unfold strV
 rw[of_toList]
theorem splitGo_head (l:List UInt8):∀ (cur:List UInt8) (i:Nat),i<l.length→l[i]?=some 47→(∀ k,k<i→l[k]?≠some 47)→splitGo cur l=(cur++l.take i)::splitGo [] (l.drop (i+1)):=by
 induction l with
 | nil=>intro cur i h;simp at h
 | cons c t ih =>
  intro cur i hi hc hn
  cases i with
  | zero =>
   simp at hc
   subst hc
   simp[splitGo]
  | succ i =>
   have h0:c≠47:=by
    have:=hn 0 (by omega)
    simpa using this
   have hi':i<t.length:=by simpa using hi
   have hc':t[i]?=some 47:=by simpa using hc
   have hn':∀ k,k<i→t[k]?≠some 47:=fun k hk=>by
    have:=hn (k+1) (by omega)
    simpa using this
   simp only[splitGo,h0,if_false]
   rw[ih (cur ++ [c]) i hi' hc' hn']
   simp
theorem splitGo_none (l:List UInt8):∀ (cur:List UInt8),(∀ (k:Nat),l[k]?≠some 47)→splitGo cur l= [cur++l]:=by
 induction l with
 | nil=>intro cur _;simp[splitGo]
 | cons c t ih =>
  intro cur hn
  have h0:c≠47:=by
   have:=hn 0
   simpa using this
  simp only[splitGo,h0,if_false]
  rw[ih (cur ++ [c]) (fun k=>by have:=hn (k+1);simpa using this)]
  simp
theorem parts_cut (s:ByteArray) (i:Nat) (h:Lib.indexByte s.data.toList 47=i):i<s.size∧parts s.toList=(s.extract 0 i).toList::parts (s.extract (i+1) s.size).toList:=by
 obtain⟨h1,h2⟩:=Lib.indexByte_some h
 have hi:i<s.data.toList.length:=by
  rcases Nat.lt_or_ge i s.data.toList.length with h|h
  ·exact h
  ·rw[List.getElem?_eq_none h]at h1;cases h1
 refine⟨by simpa using hi,?_⟩
 unfold parts
 rw[Lib.toList_data,splitGo_head _ [] i hi h1 h2]
 simp only[Lib.toList_data,ByteArray.data_extract,Array.toList_extract,List.extract_eq_take_drop,List.nil_append,List.drop_zero,Nat.sub_zero]
 congr 2
 rw[List.take_of_length_le]
 rw[List.length_drop]
 exact Nat.le_refl _
theorem parts_last (s:ByteArray) (h:Lib.indexByte s.data.toList 47= -1):parts s.toList= [s.toList]:=by
 unfold parts
 rw[splitGo_none _ [] (by rw[Lib.toList_data];exact Lib.indexByte_none h)]
 rfl
theorem cut_size (s:ByteArray) (i:Nat) (h:i<s.size):(s.extract (i+1) s.size).size<s.size:=by
 rw[ByteArray.size_extract]
 omega
theorem setCell_grown (W:World) (b:Nat) (v:Value):W.grownBy (W.setCell ⟨b,0,none⟩ v) (some b):=grownBy_setCell' W b v
set_option maxHeartbeats 2000000 in
set_option maxRecDepth 100000 in
theorem split_box (n:Nat) (B:Nat) (s:ByteArray) (w:World) (hs:s.size≤140737488351232)
  (c0:w.cell? ⟨B,0,none⟩=some (.string s)) (f0:w.frozen? ⟨B,0,none⟩=false) (c1:w.cell? ⟨B+1,0,none⟩=some (.string ⟨#[47]⟩)) (c2:w.cell? ⟨B+2,0,none⟩=some (.int .i64 0)) :
  SeqBox Fence.wide n Tryz.prog 103 #[.pointer (some ⟨B+1,0,none⟩),.pointer (some ⟨B,0,none⟩),.pointer (some ⟨B+2,0,none⟩)] strV B 3 (parts s.toList) w:=by
 intro l J Jx W hW hBW hJ hY hJB h0
 refine callsIn_of_wp Tryz.func103 rfl trivial ?_ rfl
 simp only[Tryz.ntmps103,List.size_toArray,List.length_cons,List.length_nil,Nat.reduceAdd,Nat.reduceSub,Array.replicate_succ,Array.replicate_zero,List.push_toArray,List.append_toArray,List.nil_append,List.cons_append]
 have d0:W.cell? ⟨B,0,none⟩=some (.string s):=(hW.cell (by omega) (by omega)).trans c0
 have d1:W.cell? ⟨B+1,0,none⟩=some (.string ⟨#[47]⟩):=(hW.cell (by omega) (by omega)).trans c1
 have d2:W.cell? ⟨B+2,0,none⟩=some (.int .i64 0):=(hW.cell (by omega) (by omega)).trans c2
 have df:W.frozen? ⟨B,0,none⟩=false:=by
  rw[← f0]
  simp only[World.frozen?]
  rw[hW B (by omega) (by omega)]
 obtain⟨XS,hXS⟩:∃ XS,XS=parts s.toList:=⟨_,rfl⟩
 rw[← hXS]at hY ⊢
 have HXS:=Lib.hid hXS
 have HY:=Lib.hid hY
 have HJ:=Lib.hid hJ
 have HJB:=Lib.hid hJB
 have HW:=Lib.hid hW
 clear hXS hY hJ hJB hW c0 c1 c2 f0
 gi_wp2_with fail
 gi_loopg [7] (s.size+1) (fun gk i wr=>∃ (pre:List (List UInt8)) (cur:ByteArray),XS=pre++parts cur.toList∧J pre wr∧cur.size<gk∧cur.size≤s.size ∧
  wr.cell? ⟨B,0,none⟩=some (.string cur)∧wr.frozen? ⟨B,0,none⟩=false∧wr.cell? ⟨B+1,0,none⟩=some (.string ⟨#[47]⟩)∧wr.cell? ⟨B+2,0,none⟩=some (.int .i64 0))
 case atStart =>
  exact⟨[],s,by rw[HXS.out];rfl,h0,by omega,by omega,d0,df,d1,d2⟩
 case round =>
  obtain⟨pre,cur,hx,hJs,hgk,hcs,e0,ef,e1,e2⟩:=hrel
  have HX:=Lib.hid hx
  clear hx d0 df d1 d2
  have hge:=Lib.indexByte_ge cur.data.toList 47
  by_cases hi:Lib.indexByte cur.data.toList 47= -1
  ·have HP:=Lib.hid (parts_last cur hi)
   have hn:decide (Lib.indexByte cur.data.toList 47<0)=true:=decide_eq_true (by omega)
   have HI:=Lib.hid hi
   clear hi hge
   obtain⟨fn,tmps,assign,body,hy,hR⟩:=HY.out pre cur.toList wr hJs (by rw[HX.out,HP.out];exact List.prefix_refl _)
   rw[strV_toList]at hy
   gi_wp2_with (refine⟨trivial,(fun h=>(nomatch h)),?_⟩;refine(callsIn_wide.2 (Tryz.strings_Index_one cur 47 _)).mono ?_;rintro e w' ⟨rfl,rfl⟩)
   refine⟨(fun h=>(nomatch h)),hR.mono ?_⟩
   rintro e W' (⟨rfl,hJ',hk⟩|⟨rfl,hJx'⟩)
   ·gi_wp2
    go_end0
    exact⟨⟨_,rfl⟩,.inl (by rw[HX.out,HP.out];exact hJ')⟩
   ·gi_wp2
    go_end0
    exact⟨⟨_,rfl⟩,.inr ⟨pre,⟨cur.toList,by rw[HX.out,HP.out];exact List.prefix_refl _⟩,cur.toList,hJx'⟩⟩
  ·obtain⟨k,hk⟩:∃ k:Nat,Lib.indexByte cur.data.toList 47=k:=⟨(Lib.indexByte cur.data.toList 47).toNat,by omega⟩
   obtain⟨hkl,hpc⟩:=parts_cut cur k hk
   have hsz:=cut_size cur k hkl
   have HP:=Lib.hid hpc
   clear hpc hi hge
   have hpre:pre ++ [(cur.extract 0 k).toList] <+: XS:=by
    rw[HX.out,HP.out]
    exact⟨parts (cur.extract (k+1) cur.size).toList,by simp⟩
   obtain⟨fn,tmps,assign,body,hy,hR⟩:=HY.out pre (cur.extract 0 k).toList wr hJs hpre
   rw[strV_toList]at hy
   have HPRE:=Lib.hid hpre
   clear hpre
   gi_wp2_with (refine⟨trivial,(fun h=>(nomatch h)),?_⟩;refine(callsIn_wide.2 (Tryz.strings_Index_one cur 47 _)).mono ?_;rintro e w' ⟨rfl,rfl⟩;rw[hk])
   refine⟨(fun h=>(nomatch h)),hR.mono ?_⟩
   rintro e W' (⟨rfl,hJ',hkp⟩|⟨rfl,hJx'⟩)
   ·have q0:W'.cell? ⟨B,0,none⟩=some (.string cur):=(hkp.cell (by omega) (by omega)).trans e0
    have q1:W'.cell? ⟨B+1,0,none⟩=some (.string ⟨#[47]⟩):=(hkp.cell (by omega) (by omega)).trans e1
    have q2:W'.cell? ⟨B+2,0,none⟩=some (.int .i64 0):=(hkp.cell (by omega) (by omega)).trans e2
    have qf:W'.frozen? ⟨B,0,none⟩=false:=by
     rw[← ef]
     simp only[World.frozen?]
     rw[hkp B (by omega) (by omega)]
    have HN:Hid (J (pre ++ [(cur.extract 0 k).toList]) (W'.setCell ⟨B,0,none⟩ (.string (cur.extract (k+1) cur.size)))):=Lib.hid (HJ.out _ _ _ _ hJ' (setCell_grown _ _ _) (fun r e=>by cases e;omega))
    obtain⟨gk',rfl⟩:∃ g,gk=g+1:=⟨gk - 1,by omega⟩
    clear e0 e1 e2 ef
    gi_wp2
    gi_roundg gk'
    case measure=>omega
    case rel =>
     exact⟨pre ++ [(cur.extract 0 k).toList],cur.extract (k+1) cur.size,by rw[HX.out,HP.out];simp,HN.out,by omega,by omega,by simp[World.cell?_setCell_same' _ _ _ (by rw[q0];rfl)],by rw[World.frozen?_setCell];exact qf,by simp[World.cell?_setCell_other,q1],by simp[World.cell?_setCell_other,q2]⟩
   ·gi_wp2
    refine bodyPost_ret (results_none rfl _ _ _) rfl ?_
    exact⟨⟨_,rfl⟩,.inr ⟨pre,⟨_,HPRE.out⟩,_,hJx'⟩⟩
end Go.Proofs.YtgiogemkomgkhaaGreatDoor.Nm
namespace Go.Proofs.YtgiogemkomgkhaaGreatDoor.Nm
open Go
theorem get_drop (s:ByteArray) (i k:Nat):(⟨(s.data.toList.drop i).toArray⟩:ByteArray).get! (0+k)=s.get! (i+k):=by
 show(s.data.toList.drop i).toArray[0+k]! = s.data[i+k]!
 rw[Nat.zero_add]
 simp only[getElem!_def]
 rw[List.getElem?_toArray,List.getElem?_drop,Array.getElem?_toList]
theorem size_drop (s:ByteArray) (i:Nat):(⟨(s.data.toList.drop i).toArray⟩:ByteArray).size=s.size - i:=by
 show(s.data.toList.drop i).toArray.size=_
 rw[List.size_toArray,List.length_drop]
 rfl
theorem dec_drop (s:ByteArray) (i:Nat):Lib.decodeL (s.data.toList.drop i)=Utf8.decode s i:=by
 unfold Lib.decodeL Utf8.decode
 have hc:∀ k,decide (0+k<(⟨(s.data.toList.drop i).toArray⟩:ByteArray).size)=decide (i+k<s.size):=fun k=>by
  rw[size_drop,Bool.eq_iff_iff,decide_eq_true_eq,decide_eq_true_eq]
  omega
 simp only[get_drop,hc]
theorem good_split (s:ByteArray):∀ (f i:Nat),goodGo f s i=(Lib.validGoD f (s.data.toList.drop i) && decide (Lib.idxFuncFrom oddR true s f i= -1))
 | 0,i=>by simp[goodGo,Lib.validGoD,Lib.idxFuncFrom]
 | f+1,i=>by
  unfold goodGo Lib.validGoD Lib.idxFuncFrom
  by_cases hi:i<s.size
  ·have hne:s.data.toList.drop i≠ []:=by
    intro h
    have:=congrArg List.length h
    rw[List.length_drop]at this
    have h2:s.data.toList.length=s.size:=rfl
    simp only[List.length_nil]at this
    omega
   rw[if_pos hi,if_neg hne,if_pos hi,dec_drop]
   unfold okSign
   by_cases ho:oddR (Utf8.decode s i).1=true
   ·simp only[ho,if_true]
    have:((i:Int)= -1)=False:=by
     apply propext
     constructor
     ·intro h;omega
     ·exact False.elim
    simp[this]
   ·by_cases hb:Utf8.decode s i=(65533,1)
    ·have h1:(Utf8.decode s i).1=65533∧(Utf8.decode s i).2=1:=by rw[hb];exact⟨rfl,rfl⟩
     rw[if_pos h1]
     simp[hb]
    ·have h1:¬ ((Utf8.decode s i).1=65533∧(Utf8.decode s i).2=1):=fun h=>hb (Prod.ext h.1 h.2)
     rw[if_neg h1,if_neg ho,List.drop_drop]
     simp only[hb,decide_false,Bool.not_false,Bool.true_and]
     have ho':oddR (Utf8.decode s i).1=false:=by simpa using ho
     rw[ho']
     simp only[Bool.not_false,if_true]
     rw[good_split s f]
  ·rw[if_neg hi,if_neg hi]
   have hn:s.data.toList.drop i= []:=by
    apply List.drop_eq_nil_of_le
    have h2:s.data.toList.length=s.size:=rfl
    omega
   rw[if_pos hn]
   rfl
theorem good_iff (s:ByteArray):goodB s=(Lib.validD s.data.toList && !decide (0≤Lib.idxFunc oddR true s)):=by
 unfold goodB Lib.validD Lib.idxFunc
 have h2:s.data.toList.length=s.size:=rfl
 rw[good_split,h2,List.drop_zero]
 congr 1
 have:=Lib.idxFuncFrom_range oddR true s s.size 0
 rw[Bool.eq_iff_iff]
 simp only[decide_eq_true_eq,Bool.not_eq_true',decide_eq_false_iff_not]
 omega
end Go.Proofs.YtgiogemkomgkhaaGreatDoor.Nm
namespace Go.Proofs.YtgiogemkomgkhaaGreatDoor.Nm
open Go.RowKit
theorem pv_range (s:ByteArray) (i:Nat) (v:Int) (h0:0≤v) (h1:v<128):∀ k,k≤3→(∀ j,1≤j→j≤k→128≤byt s (i+j)∧byt s (i+j)<192)→0≤pv s i v (k+1)∧pv s i v (k+1)<128*64 ^ k:=by
 intro k hk hc
 have b:∀ j,1≤j→j≤k→128≤byt s (i+j)∧byt s (i+j)<192:=hc
 match k with
 | 0=>simp[pv];omega
 | 1=>have:=b 1 (by omega) (by omega);simp only[pv,Nat.zero_add];omega
 | 2=>have:=b 1 (by omega) (by omega);have:=b 2 (by omega) (by omega);simp only[pv,Nat.zero_add,Nat.reduceAdd];omega
 | 3=>have:=b 1 (by omega) (by omega);have:=b 2 (by omega) (by omega);have:=b 3 (by omega) (by omega);simp only[pv,Nat.zero_add,Nat.reduceAdd];omega
 | k+4=>omega
theorem pv_succ (s:ByteArray) (i:Nat) (v:Int) (m:Nat) (h:1≤m):pv s i v (m+1)=64*pv s i v m+(byt s (i+m):Int) - 128:=by
 obtain⟨q,rfl⟩:∃ q,m=q+1:=⟨m - 1,by omega⟩
 rfl
theorem class_range {c n:Nat} {v least:Int} (h:Class c n v least):1≤n∧n≤4∧0≤v∧v<128∧0≤least∧least≤65536:=by
 unfold Class at h
 omega
theorem goodGo_stop (s:ByteArray) (f i:Nat) (h:i<s.size) (hb:okSign s i=false):goodGo (f+1) s i=false:=by
 unfold goodGo
 rw[if_pos h,hb]
 rfl
theorem goodGo_on (s:ByteArray) (f i n:Nat) (h:i<s.size) (hb:okSign s i=true∧(Utf8.decode s i).2=n):goodGo (f+1) s i=goodGo f s (i+n):=by
 conv=>lhs;unfold goodGo
 rw[if_pos h,hb.1,hb.2]
 rfl
theorem goodGo_end (s:ByteArray) (f i:Nat) (h:¬ i<s.size):goodGo f s i=true:=by
 cases f with
 | zero=>rfl
 | succ f=>unfold goodGo;rw[if_neg h]
theorem goodGo_more (s:ByteArray):∀ (f g i:Nat),s.size≤i+f→s.size≤i+g→goodGo f s i=goodGo g s i
 | 0,g,i,h,h'=>by rw[goodGo_end s 0 i (by omega),goodGo_end s g i (by omega)]
 | f+1,0,i,h,h'=>by rw[goodGo_end s 0 i (by omega),goodGo_end s _ i (by omega)]
 | f+1,g+1,i,h,h'=>by
  unfold goodGo
  by_cases hi:i<s.size
  ·rw[if_pos hi,if_pos hi]
   by_cases hb:okSign s i=true
   ·rw[if_pos hb,if_pos hb]
    have hw:1≤(Utf8.decode s i).2:=by
     unfold Utf8.decode
     dsimp only
     repeat' split
     all_goals simp
    exact goodGo_more s f g _ (by omega) (by omega)
   ·rw[if_neg hb,if_neg hb]
  ·rw[if_neg hi,if_neg hi]
set_option maxHeartbeats 600000 in
set_option maxRecDepth 100000 in
theorem good_calls (s:ByteArray) (w:World) (hs:s.size≤140737488351232) :
  Calls Tryz.prog 34 #[.string s] w fun e w'=>e= .returned (.bool (goodB s))∧w=w':=by
 obtain⟨ANS,HA⟩:∃ b,b=goodB s:=⟨_,rfl⟩
 rw[← HA]
 have HB:=Lib.hid HA
 clear HA
 go_enter Tryz.func34,Tryz.ntmps34
 go_wp2
 go_loop [3] (fun i=>∃ k:Nat,k≤s.size∧i= .int .i64 k∧goodGo (s.size - k) s k=ANS) (fun i=>s.size - (intOf i).toNat)
 case atStart=>exact⟨0,Nat.zero_le _,rfl,by rw[HB.out];rfl⟩
 case round =>
  obtain⟨k,hk,rfl,hg⟩:=hrel
  have HG:=Lib.hid hg
  clear hg
  by_cases hlt:k<s.size
  ·have hf:s.size - k=(s.size - k - 1)+1:=by omega
   have HF:=Lib.hid hf
   clear hf
   have stop:Hid (okSign s k=false→Hid (ANS=false)):=Lib.hid (fun h=>Lib.hid (by rw[← HG.out,HF.out];exact goodGo_stop s _ k hlt h))
   have hb0:=Lib.hid (byt_at s k hlt)
   have hb1:(s[k].toNat:Int)<256:=by have:=s[k].toNat_lt;omega
   go_upto_if 19 with(fail)
   go_cut [5,6,7] (fun n v l wx=>∃ (n':Nat) (v' l':Int),n= .int .i64 n'∧v= .int .i64 v'∧l= .int .i64 l'∧Class (byt s k) n' v' l'∧wx=w)
   case first =>
    rcases (by omega:((s[k].toNat:Int)<128)∨(128≤(s[k].toNat:Int)∧(s[k].toNat:Int)<192)∨(192≤(s[k].toNat:Int)∧(s[k].toNat:Int)<224)∨(224≤(s[k].toNat:Int)∧(s[k].toNat:Int)<240)∨(240≤(s[k].toNat:Int)∧(s[k].toNat:Int)<248)∨(248≤(s[k].toNat:Int))) with d0|d0|d0|d0|d0|d0
    ·have hcl:Hid (Class (byt s k) 1 (s[k].toNat:Int) 0):=Lib.hid (by rw[hb0.out];unfold Class;omega)
     have t0:decide ((s[k].toNat:Int)<128)=true:=decide_eq_true (by omega)
     have t1:decide (192≤(s[k].toNat:Int))=false:=decide_eq_false (by omega)
     have t2:decide ((s[k].toNat:Int)<224)=true:=decide_eq_true (by omega)
     have t3:decide (224≤(s[k].toNat:Int))=false:=decide_eq_false (by omega)
     have t4:decide ((s[k].toNat:Int)<240)=true:=decide_eq_true (by omega)
     have t5:decide (240≤(s[k].toNat:Int))=false:=decide_eq_false (by omega)
     have t6:decide ((s[k].toNat:Int)<248)=true:=decide_eq_true (by omega)
     go_wp2
     go_meet
     exact⟨1,s[k].toNat,0,rfl,rfl,rfl,hcl.out,rfl⟩
    ·have hst:=stop.out (no_class s k (by rw[hb0.out];omega) (by rw[hb0.out];omega) (by rw[hb0.out];omega) (by rw[hb0.out];omega))
     have t0:decide ((s[k].toNat:Int)<128)=false:=decide_eq_false (by omega)
     have t1:decide (192≤(s[k].toNat:Int))=false:=decide_eq_false (by omega)
     have t2:decide ((s[k].toNat:Int)<224)=true:=decide_eq_true (by omega)
     have t3:decide (224≤(s[k].toNat:Int))=false:=decide_eq_false (by omega)
     have t4:decide ((s[k].toNat:Int)<240)=true:=decide_eq_true (by omega)
     have t5:decide (240≤(s[k].toNat:Int))=false:=decide_eq_false (by omega)
     have t6:decide ((s[k].toNat:Int)<248)=true:=decide_eq_true (by omega)
     go_wp2
     all_goals go_ret
     all_goals exact⟨by rw[hst.out]<;>rfl,rfl⟩
    ·have hcl:Hid (Class (byt s k) 2 (s[k].toNat - 192:Int) 128):=Lib.hid (by rw[hb0.out];unfold Class;omega)
     have t0:decide ((s[k].toNat:Int)<128)=false:=decide_eq_false (by omega)
     have t1:decide (192≤(s[k].toNat:Int))=true:=decide_eq_true (by omega)
     have t2:decide ((s[k].toNat:Int)<224)=true:=decide_eq_true (by omega)
     have t3:decide (224≤(s[k].toNat:Int))=false:=decide_eq_false (by omega)
     have t4:decide ((s[k].toNat:Int)<240)=true:=decide_eq_true (by omega)
     have t5:decide (240≤(s[k].toNat:Int))=false:=decide_eq_false (by omega)
     have t6:decide ((s[k].toNat:Int)<248)=true:=decide_eq_true (by omega)
     go_wp2
     go_meet
     exact⟨2,s[k].toNat - 192,128,rfl,rfl,rfl,hcl.out,rfl⟩
    ·have hcl:Hid (Class (byt s k) 3 (s[k].toNat - 224:Int) 2048):=Lib.hid (by rw[hb0.out];unfold Class;omega)
     have t0:decide ((s[k].toNat:Int)<128)=false:=decide_eq_false (by omega)
     have t1:decide (192≤(s[k].toNat:Int))=true:=decide_eq_true (by omega)
     have t2:decide ((s[k].toNat:Int)<224)=false:=decide_eq_false (by omega)
     have t3:decide (224≤(s[k].toNat:Int))=true:=decide_eq_true (by omega)
     have t4:decide ((s[k].toNat:Int)<240)=true:=decide_eq_true (by omega)
     have t5:decide (240≤(s[k].toNat:Int))=false:=decide_eq_false (by omega)
     have t6:decide ((s[k].toNat:Int)<248)=true:=decide_eq_true (by omega)
     go_wp2
     go_meet
     exact⟨3,s[k].toNat - 224,2048,rfl,rfl,rfl,hcl.out,rfl⟩
    ·have hcl:Hid (Class (byt s k) 4 (s[k].toNat - 240:Int) 65536):=Lib.hid (by rw[hb0.out];unfold Class;omega)
     have t0:decide ((s[k].toNat:Int)<128)=false:=decide_eq_false (by omega)
     have t1:decide (192≤(s[k].toNat:Int))=true:=decide_eq_true (by omega)
     have t2:decide ((s[k].toNat:Int)<224)=false:=decide_eq_false (by omega)
     have t3:decide (224≤(s[k].toNat:Int))=true:=decide_eq_true (by omega)
     have t4:decide ((s[k].toNat:Int)<240)=false:=decide_eq_false (by omega)
     have t5:decide (240≤(s[k].toNat:Int))=true:=decide_eq_true (by omega)
     have t6:decide ((s[k].toNat:Int)<248)=true:=decide_eq_true (by omega)
     go_wp2
     go_meet
     exact⟨4,s[k].toNat - 240,65536,rfl,rfl,rfl,hcl.out,rfl⟩
    ·have hst:=stop.out (no_class s k (by rw[hb0.out];omega) (by rw[hb0.out];omega) (by rw[hb0.out];omega) (by rw[hb0.out];omega))
     have t0:decide ((s[k].toNat:Int)<128)=false:=decide_eq_false (by omega)
     have t1:decide (192≤(s[k].toNat:Int))=true:=decide_eq_true (by omega)
     have t2:decide ((s[k].toNat:Int)<224)=false:=decide_eq_false (by omega)
     have t3:decide (224≤(s[k].toNat:Int))=true:=decide_eq_true (by omega)
     have t4:decide ((s[k].toNat:Int)<240)=false:=decide_eq_false (by omega)
     have t5:decide (240≤(s[k].toNat:Int))=true:=decide_eq_true (by omega)
     have t6:decide ((s[k].toNat:Int)<248)=false:=decide_eq_false (by omega)
     go_wp2
     all_goals go_ret
     all_goals exact⟨by rw[hst.out]<;>rfl,rfl⟩
   case rest =>
    obtain⟨n,v,l,rfl,rfl,rfl,hc,rfl⟩:=hcut
    obtain⟨hn1,hn4,hv0,hv1,hl0,hl1⟩:=class_range hc
    have HC:=Lib.hid hc
    clear hc hb0 hb1
    by_cases hlen:s.size<k+n
    ·have hst:=stop.out (short_bad s k n v l hlt HC.out hlen)
     have hlen':decide ((s.size:Int)<(k:Int)+(n:Int))=true:=decide_eq_true (by omega)
     go_wp2
     all_goals go_ret
     all_goals exact⟨by rw[hst.out]<;>rfl,rfl⟩
    ·have hlen':decide ((s.size:Int)<(k:Int)+(n:Int))=false:=decide_eq_false (by omega)
     go_wp2
     go_loop [8,6] (fun j p=>∃ m:Nat,1≤m∧m≤n∧j= .int .i64 m∧p= .int .i64 (pv s k v m)∧∀ x,1≤x→x<m→128≤byt s (k+x)∧byt s (k+x)<192) (fun j _=>n - (intOf j).toNat)
     case atStart=>exact⟨1,by omega,by omega,rfl,rfl,fun x h1 h2=>by omega⟩
     case round =>
      obtain⟨m,hm1,hmn,rfl,rfl,hx⟩:=hrel
      obtain⟨q,hq⟩:∃ q,m=q+1:=⟨m - 1,by omega⟩
      have hr:=pv_range s k v hv0 hv1 q (by omega) (fun j h1 h2=>hx j h1 (by omega))
      have hpow:(128:Int)*64 ^ q≤128*64 ^ 3:=by
       rcases (by omega:q=0∨q=1∨q=2∨q=3) with e|e|e|e<;>rw[e]<;>decide
      rw[← hq]at hr
      have hr1:pv s k v m<33554433:=by omega
      have hr0:=hr.1
      have HX:=Lib.hid hx
      have HQ:=Lib.hid hq
      clear hx hq hr hpow
      obtain⟨P,hP⟩:∃ P,P=pv s k v m:=⟨_,rfl⟩
      rw[← hP]at hr0 hr1 ⊢
      have HP:=Lib.hid hP
      clear hP
      by_cases hmlt:m<n
      ·have hin:k+m<s.size:=by omega
       have hb0:=Lib.hid (byt_at s (k+m) hin)
       have hb1:(s[k+m].toNat:Int)<256:=by have:=s[k+m].toNat_lt;omega
       by_cases d1:(s[k+m].toNat:Int)<128
       ·have hst:=stop.out (cont_bad s k n m v l HC.out hm1 hmlt (.inl (by rw[hb0.out];omega)))
        go_wp2
        all_goals go_ret
        all_goals exact⟨by rw[hst.out]<;>rfl,rfl⟩
       ·by_cases d2:192≤(s[k+m].toNat:Int)
        ·have hst:=stop.out (cont_bad s k n m v l HC.out hm1 hmlt (.inr (by rw[hb0.out];omega)))
         go_wp2
         all_goals go_ret
         all_goals exact⟨by rw[hst.out]<;>rfl,rfl⟩
        ·have q1:decide ((s[k+m].toNat:Int)<128)=false:=decide_eq_false d1
         have q2:decide (192≤(s[k+m].toNat:Int))=false:=decide_eq_false d2
         go_wp2
         go_round
         case rel =>
          refine⟨m+1,by omega,by omega,by go_num,?_,fun x h1 h2=>?_⟩
          ·congr 1
           rw[pv_succ s k v m hm1,← HP.out,hb0.out]
          ·rcases Nat.lt_or_ge x m with h|h
           ·exact HX.out x h1 h
           ·obtain rfl:x=m:=by omega
            rw[hb0.out]
            omega
         case measure=>simp[intOf];omega
      ·have hmn':m=n:=by omega
       have HM:=Lib.hid hmn'
       clear hmn'
       have key:=Lib.hid (whole_sign s k n v l (by omega) HC.out (fun x h1 h2=>HX.out x h1 (by rw[HM.out];exact h2)))
       have bad:Hid (¬ Fine P l→Hid (ANS=false)):=Lib.hid (fun h=>stop.out (key.out.2 (by rw[← HM.out,← HP.out];exact h)))
       have good:Hid (Fine P l→Hid (goodGo (s.size - (k+n)) s (k+n)=ANS)):=Lib.hid (fun h=>Lib.hid (by
        have h2:=key.out.1 (by rw[← HM.out,← HP.out];exact h)
        rw[← HG.out,HF.out,goodGo_on s _ k n hlt h2]
        exact goodGo_more s _ _ _ (by omega) (by omega)))
       clear key
       by_cases f0:P<l
       ·have hst:=bad.out (fun h=>h.1 f0)
        have g0:decide (P<l)=true:=by exact decide_eq_true (by omega)
        clear bad good
        go_wp2
        all_goals go_ret
        all_goals exact⟨by rw[hst.out]<;>rfl,rfl⟩
       ·by_cases f1:1114111<P
        ·have hst:=bad.out (fun h=>h.2.1 f1)
         have g0:decide (P<l)=false:=by exact decide_eq_false (by omega)
         have g1:decide (1114111<P)=true:=by exact decide_eq_true (by omega)
         clear bad good
         go_wp2
         all_goals go_ret
         all_goals exact⟨by rw[hst.out]<;>rfl,rfl⟩
        ·rcases (by omega:P<55296∨(55296≤P∧P≤57343)∨57343<P) with f2|f2|f2
         ·by_cases f3:P<32
          ·have hst:=bad.out (fun h=>h.2.2.2.1 f3)
           have g0:decide (P<l)=false:=by exact decide_eq_false (by omega)
           have g1:decide (1114111<P)=false:=by exact decide_eq_false (by omega)
           have g2:decide (55296≤P)=false:=by exact decide_eq_false (by omega)
           have g4:decide (P<32)=true:=by exact decide_eq_true (by omega)
           clear bad good
           go_wp2
           all_goals go_ret
           all_goals exact⟨by rw[hst.out]<;>rfl,rfl⟩
          ·by_cases f4:P=127
           ·have hst:=bad.out (fun h=>h.2.2.2.2.1 f4)
            have g0:decide (P<l)=false:=by exact decide_eq_false (by omega)
            have g1:decide (1114111<P)=false:=by exact decide_eq_false (by omega)
            have g2:decide (55296≤P)=false:=by exact decide_eq_false (by omega)
            have g4:decide (P<32)=false:=by exact decide_eq_false (by omega)
            have g5:(P == 127)=true:=by rw[beq_iff_eq];omega
            clear bad good
            go_wp2
            all_goals go_ret
            all_goals exact⟨by rw[hst.out]<;>rfl,rfl⟩
           ·by_cases f5:P=92
            ·have hst:=bad.out (fun h=>h.2.2.2.2.2 f5)
             have g0:decide (P<l)=false:=by exact decide_eq_false (by omega)
             have g1:decide (1114111<P)=false:=by exact decide_eq_false (by omega)
             have g2:decide (55296≤P)=false:=by exact decide_eq_false (by omega)
             have g4:decide (P<32)=false:=by exact decide_eq_false (by omega)
             have g5:(P == 127)=false:=by rw[beq_eq_false_iff_ne];omega
             have g6:(P == 92)=true:=by rw[beq_iff_eq];omega
             clear bad good
             go_wp2
             all_goals go_ret
             all_goals exact⟨by rw[hst.out]<;>rfl,rfl⟩
            ·have hok:=good.out ⟨f0,f1,by omega,f3,f4,f5⟩
             have g0:decide (P<l)=false:=by exact decide_eq_false (by omega)
             have g1:decide (1114111<P)=false:=by exact decide_eq_false (by omega)
             have g2:decide (55296≤P)=false:=by exact decide_eq_false (by omega)
             have g4:decide (P<32)=false:=by exact decide_eq_false (by omega)
             have g5:(P == 127)=false:=by rw[beq_eq_false_iff_ne];omega
             have g6:(P == 92)=false:=by rw[beq_eq_false_iff_ne];omega
             clear bad good
             go_wp2
             go_round
             case rel=>exact⟨k+n,by omega,by go_num,hok.out⟩
             case measure=>simp[intOf];omega
         ·have hst:=bad.out (fun h=>h.2.2.1 f2)
          have g0:decide (P<l)=false:=by exact decide_eq_false (by omega)
          have g1:decide (1114111<P)=false:=by exact decide_eq_false (by omega)
          have g2:decide (55296≤P)=true:=by exact decide_eq_true (by omega)
          have g3:decide (P≤57343)=true:=by exact decide_eq_true (by omega)
          clear bad good
          go_wp2
          all_goals go_ret
          all_goals exact⟨by rw[hst.out]<;>rfl,rfl⟩
         ·by_cases f3:P<32
          ·have hst:=bad.out (fun h=>h.2.2.2.1 f3)
           have g0:decide (P<l)=false:=by exact decide_eq_false (by omega)
           have g1:decide (1114111<P)=false:=by exact decide_eq_false (by omega)
           have g2:decide (55296≤P)=true:=by exact decide_eq_true (by omega)
           have g3:decide (P≤57343)=false:=by exact decide_eq_false (by omega)
           have g4:decide (P<32)=true:=by exact decide_eq_true (by omega)
           clear bad good
           go_wp2
           all_goals go_ret
           all_goals exact⟨by rw[hst.out]<;>rfl,rfl⟩
          ·by_cases f4:P=127
           ·have hst:=bad.out (fun h=>h.2.2.2.2.1 f4)
            have g0:decide (P<l)=false:=by exact decide_eq_false (by omega)
            have g1:decide (1114111<P)=false:=by exact decide_eq_false (by omega)
            have g2:decide (55296≤P)=true:=by exact decide_eq_true (by omega)
            have g3:decide (P≤57343)=false:=by exact decide_eq_false (by omega)
            have g4:decide (P<32)=false:=by exact decide_eq_false (by omega)
            have g5:(P == 127)=true:=by rw[beq_iff_eq];omega
            clear bad good
            go_wp2
            all_goals go_ret
            all_goals exact⟨by rw[hst.out]<;>rfl,rfl⟩
           ·by_cases f5:P=92
            ·have hst:=bad.out (fun h=>h.2.2.2.2.2 f5)
             have g0:decide (P<l)=false:=by exact decide_eq_false (by omega)
             have g1:decide (1114111<P)=false:=by exact decide_eq_false (by omega)
             have g2:decide (55296≤P)=true:=by exact decide_eq_true (by omega)
             have g3:decide (P≤57343)=false:=by exact decide_eq_false (by omega)
             have g4:decide (P<32)=false:=by exact decide_eq_false (by omega)
             have g5:(P == 127)=false:=by rw[beq_eq_false_iff_ne];omega
             have g6:(P == 92)=true:=by rw[beq_iff_eq];omega
             clear bad good
             go_wp2
             all_goals go_ret
             all_goals exact⟨by rw[hst.out]<;>rfl,rfl⟩
            ·have hok:=good.out ⟨f0,f1,by omega,f3,f4,f5⟩
             have g0:decide (P<l)=false:=by exact decide_eq_false (by omega)
             have g1:decide (1114111<P)=false:=by exact decide_eq_false (by omega)
             have g2:decide (55296≤P)=true:=by exact decide_eq_true (by omega)
             have g3:decide (P≤57343)=false:=by exact decide_eq_false (by omega)
             have g4:decide (P<32)=false:=by exact decide_eq_false (by omega)
             have g5:(P == 127)=false:=by rw[beq_eq_false_iff_ne];omega
             have g6:(P == 92)=false:=by rw[beq_eq_false_iff_ne];omega
             clear bad good
             go_wp2
             go_round
             case rel=>exact⟨k+n,by omega,by go_num,hok.out⟩
             case measure=>simp[intOf];omega
  ·have hst:=Lib.hid (show ANS=true by rw[← HG.out];exact goodGo_end s _ k hlt)
   go_wp2
   all_goals go_ret
   all_goals exact⟨by rw[hst.out]<;>rfl,rfl⟩
end Go.Proofs.YtgiogemkomgkhaaGreatDoor.Nm
namespace Go.Proofs.YtgiogemkomgkhaaGreatDoor.Nm
open Go.RowKit
set_option maxHeartbeats 2000000 in
set_option maxRecDepth 100000 in
theorem refcheck_loop (s:ByteArray) (w:World) (hs:s.size≤140737488351232) (h1:1≤s.size) (h2:s.size≤65535) (hg:goodB s=true) :
  Calls Tryz.prog 17 #[.string s] w fun e w'=>e= .returned (.bool (chk [] s.toList))∧w=w':=by
 obtain⟨ANS,HA⟩:∃ b,b=chk [] s.toList:=⟨_,rfl⟩
 rw[← HA]
 have HB:=Lib.hid HA
 clear HA
 have z1:decide ((s.size:Int)<1)=false:=decide_eq_false (by omega)
 have z2:decide (65535<(s.size:Int))=false:=decide_eq_false (by omega)
 go_enter Tryz.func17,Tryz.ntmps17
 go_wp2_with (go_at_call 34;refine(good_calls _ _ hs).mono ?_;rintro e w' ⟨rfl,rfl⟩)
 go_loop [3,4] (fun p i=>∃ (k:Nat) (cur:ByteArray),k≤s.size+1∧p= .string cur∧i= .int .i64 k∧cur.size≤k∧(k≤s.size→chk cur.toList (s.toList.drop k)=ANS)∧(k=s.size+1→ANS=true)) (fun _ i=>s.size+1 - (intOf i).toNat)
 case atStart=>exact⟨0,⟨#[]⟩,by omega,rfl,rfl,by rw[emp_size];omega,fun _=>by rw[HB.out,emp_toList];rfl,fun h=>by omega⟩
 case round =>
  obtain⟨k,cur,hk,rfl,rfl,hcs,hA,hB⟩:=hrel
  have HA:=Lib.hid hA
  have HC:=Lib.hid hB
  clear hA hB
  by_cases hlt:k<s.size
  ·have q0:decide ((k:Int)≤(s.size:Int))=true:=decide_eq_true (by omega)
   have q1:decide ((k:Int)<(s.size:Int))=true:=decide_eq_true (by omega)
   have HD:=Lib.hid (drop_at s k hlt)
   by_cases h47:s[k]=47
   ·have q2:((s[k].toNat:Int) != 47)=false:=by rw[h47];rfl
    have HE:Hid (chk cur.toList (s.toList.drop k)=(goodPart cur.toList && chk [] (s.toList.drop (k+1)))):=Lib.hid (by rw[HD.out,h47];exact chk_slash _ _)
    clear h47
    by_cases hp:goodPart cur.toList=true
    ·have HF:Hid (chk [] (s.toList.drop (k+1))=ANS):=Lib.hid (by rw[← HA.out (by omega),HE.out,hp];rfl)
     obtain⟨p0,p1,p2,p3⟩:=good_part hp
     clear HA HE
     go_wp2
     go_round
     case rel=>exact⟨k+1,⟨#[]⟩,by omega,rfl,by go_num,by rw[emp_size];omega,fun _=>by rw[emp_toList];exact HF.out,fun h=>by omega⟩
     case measure=>simp[intOf];omega
    ·have HF:Hid (ANS=false):=Lib.hid (by rw[← HA.out (by omega),HE.out];simp[hp])
     clear HA HE
     rcases bad_part _ hp with⟨p0,p1⟩|⟨p0,p1,p2⟩|⟨p0,p1,p2,p3⟩
     all_goals
      clear hp
      go_wp2
      go_ret
      exact⟨by rw[HF.out]<;>rfl,rfl⟩
   ·have q2:((s[k].toNat:Int) != 47)=true:=by
     rw[bne_iff_ne]
     intro h
     exact h47 (UInt8.toNat_inj.1 (show s[k].toNat=47 by omega))
    have HE:=Lib.hid (push_one cur s k hlt)
    have HF:Hid (chk (cur.toList ++ [s[k]]) (s.toList.drop (k+1))=ANS):=Lib.hid (by rw[← HA.out (by omega),HD.out,chk_other _ _ _ h47])
    clear HA h47
    go_wp2
    go_round
    case rel=>exact⟨k+1,cur++s.extract k (k+1),by omega,by rfl,by go_num,by rw[HE.out.2];omega,fun _=>by rw[HE.out.1];exact HF.out,fun h=>by omega⟩
    case measure=>simp[intOf];omega
  ·by_cases heq:k=s.size
   ·have q0:decide ((k:Int)≤(s.size:Int))=true:=decide_eq_true (by omega)
    have q1:decide ((k:Int)<(s.size:Int))=false:=decide_eq_false (by omega)
    have HE:Hid (ANS=goodPart cur.toList):=Lib.hid (by rw[← HA.out (by omega),drop_end s k (by omega),chk_nil])
    have hle:k≤s.size:=by omega
    clear heq
    by_cases hp:goodPart cur.toList=true
    ·have HF:Hid (ANS=true):=Lib.hid (by rw[HE.out,hp])
     obtain⟨p0,p1,p2,p3⟩:=good_part hp
     clear HA HE
     go_wp2
     go_round
     case rel=>exact⟨k+1,⟨#[]⟩,by omega,rfl,by go_num,by rw[emp_size];omega,fun h=>by omega,fun _=>HF.out⟩
     case measure=>simp[intOf];omega
    ·have HF:Hid (ANS=false):=Lib.hid (by rw[HE.out];simpa using hp)
     clear HA HE
     rcases bad_part _ hp with⟨p0,p1⟩|⟨p0,p1,p2⟩|⟨p0,p1,p2,p3⟩
     all_goals
      clear hp
      go_wp2
      go_ret
      exact⟨by rw[HF.out]<;>rfl,rfl⟩
   ·have q0:decide ((k:Int)≤(s.size:Int))=false:=decide_eq_false (by omega)
    have HF:Hid (ANS=true):=Lib.hid (HC.out (by omega))
    go_wp2
    go_ret
    exact⟨by rw[HF.out]<;>rfl,rfl⟩
set_option maxRecDepth 100000 in
theorem refcheck_calls (s:ByteArray) (w:World) (hs:s.size≤140737488351232) :
  Calls Tryz.prog 17 #[.string s] w fun e w'=>e= .returned (.bool (checkB s))∧w=w':=by
 by_cases h1:1≤s.size
 ·by_cases h2:s.size≤65535
  ·by_cases hg:goodB s=true
   ·have e:checkB s=chk [] s.toList:=by simp[checkB,h1,h2,hg]
    rw[e]
    exact refcheck_loop s w hs h1 h2 hg
   ·have e:Hid (checkB s=false):=Lib.hid (by simp[checkB,hg])
    have hg':goodB s=false:=by simpa using hg
    have z1:decide ((s.size:Int)<1)=false:=decide_eq_false (by omega)
    have z2:decide (65535<(s.size:Int))=false:=decide_eq_false (by omega)
    clear hg
    go_enter Tryz.func17,Tryz.ntmps17
    go_wp2_with (go_at_call 34;refine(good_calls _ _ hs).mono ?_;rintro e w' ⟨rfl,rfl⟩)
    go_ret
    exact⟨by rw[e.out]<;>rfl,rfl⟩
  ·have e:Hid (checkB s=false):=Lib.hid (by simp[checkB,h2])
   have z1:decide ((s.size:Int)<1)=false:=decide_eq_false (by omega)
   have z2:decide (65535<(s.size:Int))=true:=decide_eq_true (by omega)
   clear h2
   go_enter Tryz.func17,Tryz.ntmps17
   go_wp2
   go_ret
   exact⟨by rw[e.out]<;>rfl,rfl⟩
 ·have e:Hid (checkB s=false):=Lib.hid (by simp[checkB,h1])
  have z1:decide ((s.size:Int)<1)=true:=decide_eq_true (by omega)
  clear h1
  go_enter Tryz.func17,Tryz.ntmps17
  go_wp2
  go_ret
  exact⟨by rw[e.out]<;>rfl,rfl⟩
end Go.Proofs.YtgiogemkomgkhaaGreatDoor.Nm
namespace Go.Proofs.YtgiogemkomgkhaaGreatDoor.Nm
open Go.RowKit Go.Shelf Rb
attribute [local go_sem] Oper.semAt_some
def errN (b:Bool):Int:=if b then 0 else 9
theorem odd_calls (r:Nat) (W:World) (h:r≤1114111):Calls Tryz.prog 67 #[.int .i32 r] W fun e w'=>e= .returned (.bool (oddR r))∧∃ q,w'=W.drewN q:=by
 by_cases h1:r<32
 ·have e:Hid (oddR r=true):=Lib.hid (by simp[oddR,h1])
  have t1:decide ((r:Int)<32)=true:=decide_eq_true (by omega)
  go_enter Tryz.func67,Tryz.ntmps67
  go_wp2
  go_ret
  exact⟨by rw[e.out]<;>rfl,0,rfl⟩
 ·have t1:decide ((r:Int)<32)=false:=decide_eq_false (by omega)
  by_cases h2:r=127
  ·have e:Hid (oddR r=true):=Lib.hid (by simp[oddR,h2])
   have t2:((r:Int) == 127)=true:=by rw[beq_iff_eq];omega
   clear h2
   go_enter Tryz.func67,Tryz.ntmps67
   go_wp2
   go_ret
   exact⟨by rw[e.out]<;>rfl,0,rfl⟩
  ·have t2:((r:Int) == 127)=false:=by rw[beq_eq_false_iff_ne];omega
   by_cases h3:r=92
   ·have e:Hid (oddR r=true):=Lib.hid (by simp[oddR,h3])
    have t3:((r:Int) == 92)=true:=by rw[beq_iff_eq];omega
    clear h3
    go_enter Tryz.func67,Tryz.ntmps67
    go_wp2
    go_ret
    exact⟨by rw[e.out]<;>rfl,0,rfl⟩
   ·have e:Hid (oddR r=false):=Lib.hid (by simp[oddR,h1,h2,h3])
    have t3:((r:Int) == 92)=false:=by rw[beq_eq_false_iff_ne];omega
    go_enter Tryz.func67,Tryz.ntmps67
    go_wp2
    go_ret
    exact⟨by rw[e.out]<;>rfl,0,rfl⟩
theorem odd_pred (w:World):PredAtRunes Tryz.prog 67 #[] oddR w:=fun W x hx _=>odd_calls x W hx
def Tabs (w:World):Prop:=Lib.Utf8Tabs 0 1 w
theorem Tabs.below {w w':World} (h:Tabs w) (hb:Below w.heap.size w w'):Tabs w' :=
 ⟨fun c hc=>(hb.cell (World.block_lt_of_cell? w _ (h.1 c hc))).trans (h.1 c hc),fun i hi=>⟨(hb.cell (World.block_lt_of_cell? w _ (h.2 i hi).1)).trans (h.2 i hi).1,(hb.cell (World.block_lt_of_cell? w _ (h.2 i hi).2)).trans (h.2 i hi).2⟩⟩
theorem valid_calls (s:ByteArray) (w:World) (hs:s.size≤140737488351232) (hT:Tabs w) :
  Calls Tryz.prog 65 #[.string s] w fun e w'=>e= .returned (.bool (Lib.validD s.data.toList))∧Below w.heap.size w w' :=
 Any.utf8_ValidString Tryz.laysValid s w (by omega) hT
theorem contains_calls (s:ByteArray) (w:World) :
  Calls Tryz.prog 66 #[.string s,.func (.func 67) #[] #[]] w fun e w'=>e= .returned (.bool (decide (0≤Lib.idxFunc oddR true s)))∧Below w.heap.size w w' :=
 Tryz.strings_ContainsFunc_runes 67 #[] (enters_of Tryz.func67 (by kernel_rfl) rfl) oddR s w (odd_pred w)
theorem bcell {W w1:World} (hb:Below W.heap.size W w1):(∀ b o,b<W.heap.size→w1.cell? ⟨b,o,none⟩=W.cell? ⟨b,o,none⟩)∧(∀ b o,b<W.heap.size→w1.frozen? ⟨b,o,none⟩=W.frozen? ⟨b,o,none⟩) :=
 ⟨fun b o h=>hb.cell (p:=⟨b,o,none⟩) h,fun b o h=>hb.frozen (p:=⟨b,o,none⟩) h⟩
abbrev w9 (w:World) (v:Int):World:=w.alloc (.cells #[.int .i64 v] 31)
theorem tabs9 {w:World} (h:Tabs w) (v:Int):Tabs (w9 w v):=h.below ((Below.refl _ _).alloc (Nat.le_refl _) _)
theorem below9 (w:World) (v:Int):Below w.heap.size w (w9 w v):=(Below.refl _ _).alloc (Nat.le_refl _) _
set_option maxHeartbeats 1000000 in
set_option maxRecDepth 100000 in
theorem check_short (s:ByteArray) (w:World) (hs:s.size≤140737488351232) (hT:Tabs w) (hb:(decide (1≤s.size) && decide (s.size≤65535) && goodB s)=false) :
  Calls Tryz.prog 39 #[.string s] w fun e w'=>e= .returned (.int .i64 9)∧Below w.heap.size w w':=by
 by_cases h1:s.size=0
 ·have p0:s.toList.isEmpty=true:=by rw[List.isEmpty_iff,← List.length_eq_zero_iff,size_toList];exact h1
  clear h1 hb hT
  go_enter Tryz.func39,Tryz.ntmps39
  go_wp2
  exact bodyPost_ret (v:= .int .i64 9) (by simp[results,Tryz.results39,go_sem]) rfl ⟨rfl,below9 w 9⟩
 ·have p0:s.toList.isEmpty=false:=by rw[List.isEmpty_eq_false_iff];intro h;exact h1 (by rw[← size_toList,h];rfl)
  by_cases h2:65535<s.size
  ·have p1:decide (65535<(s.size:Int))=true:=decide_eq_true (by omega)
   clear h1 hb hT h2
   go_enter Tryz.func39,Tryz.ntmps39
   go_wp2
   exact bodyPost_ret (v:= .int .i64 9) (by simp[results,Tryz.results39,go_sem]) rfl ⟨rfl,below9 w 9⟩
  ·have p1:decide (65535<(s.size:Int))=false:=decide_eq_false (by omega)
   have hT1:=tabs9 hT 0
   have hg:goodB s=false:=by
    have e1:decide (1≤s.size)=true:=decide_eq_true (by omega)
    have e2:decide (s.size≤65535)=true:=decide_eq_true (by omega)
    rw[e1,e2]at hb
    simpa using hb
   rw[good_iff]at hg
   clear hb h1 h2 hT
   cases hv:Lib.validD s.data.toList with
   | false =>
    clear hg
    go_enter Tryz.func39,Tryz.ntmps39
    go_wp2_with (go_at_call 65;refine(valid_calls _ _ hs hT1).mono ?_;rintro e w1 ⟨rfl,hb1⟩;obtain⟨hc,hf⟩:=bcell hb1;have hz:w.heap.size<w1.heap.size:=(by have:=hb1.size;simp at this;omega))
    exact bodyPost_ret (v:= .int .i64 9) (by simp[results,Tryz.results39,go_sem,hc,hz]) rfl ⟨rfl,((below9 w 0).trans (hb1.mono (by simp))).setCell (by simp) _⟩
   | true =>
    have ho:decide (0≤Lib.idxFunc oddR true s)=true:=by rw[hv]at hg;simpa using hg
    clear hg
    go_enter Tryz.func39,Tryz.ntmps39
    go_wp2_with (first|(go_at_call 65;refine(valid_calls _ _ hs hT1).mono ?_;rintro e w1 ⟨rfl,hb1⟩;rw[hv])|(go_at_call 66;refine(contains_calls _ _).mono ?_;rintro e w2 ⟨rfl,hb2⟩;rw[ho];obtain⟨hc,hf⟩:=bcell hb1;obtain⟨hc2,hf2⟩:=bcell hb2;have hz:w.heap.size<w1.heap.size:=(by have:=hb1.size;simp at this;omega);have hz2:w.heap.size<w2.heap.size:=(by have:=hb2.size;omega)))
    exact bodyPost_ret (v:= .int .i64 9) (by simp[results,Tryz.results39,go_sem,hc,hz,hc2,hz2]) rfl ⟨rfl,(((below9 w 0).trans (hb1.mono (by simp))).trans (hb2.mono (by omega))).setCell (by simp) _⟩
abbrev wSplit (w:World) (s:ByteArray):World:=((w.alloc (.cells #[.string s] 9)).alloc (.cells #[.string ⟨#[47]⟩] 9)).alloc (.cells #[.int .i64 0] 3)
theorem splitseq_calls (s:ByteArray) (w:World) :
  Calls Tryz.prog 68 #[.string s,.string ⟨#[47]⟩] w fun e w' =>
   e= .returned (.func (.func 103) #[] #[.pointer (some ⟨w.heap.size+1,0,none⟩),.pointer (some ⟨w.heap.size,0,none⟩),.pointer (some ⟨w.heap.size+2,0,none⟩)])∧wSplit w s=w':=by
 go_enter Tryz.func68,Tryz.ntmps68
 go_wp2
 go_ret
 exact⟨rfl,rfl⟩
theorem split_facts (w:World) (s:ByteArray):(wSplit w s).cell? ⟨w.heap.size,0,none⟩=some (.string s)∧(wSplit w s).frozen? ⟨w.heap.size,0,none⟩=false ∧
  (wSplit w s).cell? ⟨w.heap.size+1,0,none⟩=some (.string ⟨#[47]⟩)∧(wSplit w s).cell? ⟨w.heap.size+2,0,none⟩=some (.int .i64 0)∧(wSplit w s).heap.size=w.heap.size+3∧Below w.heap.size w (wSplit w s):=by
 have a1:=cell_new_l w (.string s) 9
 have a2:=cell_new_l (w.alloc (.cells #[.string s] 9)) (.string ⟨#[47]⟩) 9
 have a3:=cell_new_l ((w.alloc (.cells #[.string s] 9)).alloc (.cells #[.string ⟨#[47]⟩] 9)) (.int .i64 0) 3
 have z1:(w.alloc (.cells #[.string s] 9)).heap.size=w.heap.size+1:=by simp
 have z2:((w.alloc (.cells #[.string s] 9)).alloc (.cells #[.string ⟨#[47]⟩] 9)).heap.size=w.heap.size+2:=by simp
 rw[z1]at a2
 rw[z2]at a3
 exact⟨cell_alloc_l _ (cell_alloc_l _ a1.1),frozen_alloc_l _ (cell_alloc_l _ a1.1) (frozen_alloc_l _ a1.1 a1.2),cell_alloc_l _ a2.1,a3.1,by simp,(((Below.refl _ w).alloc (Nat.le_refl _) _).alloc (by simp) _).alloc (by simp;omega) _⟩
theorem part_bad {s:ByteArray} {pre:List (List UInt8)} {x:List UInt8} (h:pre ++ [x] <+: parts s.toList) (hx:goodPart x=false):chk [] s.toList=false:=by
 obtain⟨r,hr⟩:=h
 unfold chk
 unfold parts at hr
 rw[← hr,List.all_append,List.all_append]
 simp[hx]
set_option maxHeartbeats 2000000 in
set_option maxRecDepth 100000 in
theorem check_long (s:ByteArray) (w:World) (hs:s.size≤140737488351232) (hT:Tabs w) (h1:1≤s.size) (h2:s.size≤65535) (hg:goodB s=true) :
  Calls Tryz.prog 39 #[.string s] w fun e w'=>e= .returned (.int .i64 (errN (chk [] s.toList)))∧Below w.heap.size w w':=by
 have p0:s.toList.isEmpty=false:=by rw[List.isEmpty_eq_false_iff];intro h;have e:=size_toList s;rw[h]at e;simp at e;omega
 have p1:decide (65535<(s.size:Int))=false:=decide_eq_false (by omega)
 have hT1:=tabs9 hT 0
 rw[good_iff,Bool.and_eq_true,Bool.not_eq_true']at hg
 obtain⟨hv,ho⟩:=hg
 obtain⟨R,HR⟩:∃ r,r=errN (chk [] s.toList):=⟨_,rfl⟩
 rw[← HR]
 have HRH:=Lib.hid HR
 have HV:=Lib.hid hv
 have HO:=Lib.hid ho
 clear HR hT hv ho
 refine(callsIn_wide (n:=3)).1 ?_
 refine callsIn_of_wp_marks Tryz.func39 rfl trivial ?_ rfl
 simp only[Tryz.ntmps39,List.size_toArray,List.length_cons,List.length_nil,Nat.reduceAdd,Nat.reduceSub,Array.replicate_succ,Array.replicate_zero,List.push_toArray,List.append_toArray,List.nil_append,List.cons_append]
 gi_wp2_with (first|(refine⟨trivial,?_⟩;gi_at_call 65;refine(callsIn_wide.2 (valid_calls _ _ hs hT1)).mono ?_;rintro e w1 ⟨rfl,hb1⟩;rw[HV.out])|(refine⟨trivial,?_⟩;gi_at_call 66;refine(callsIn_wide.2 (contains_calls _ _)).mono ?_;rintro e w2 ⟨rfl,hb2⟩;rw[HO.out])|(refine⟨trivial,?_⟩;gi_at_call 68;refine(callsIn_wide.2 (splitseq_calls _ _)).mono ?_;rintro e w3 ⟨rfl,hw3⟩))
 obtain⟨c0,f0,c1,c2,z3,b3⟩:=split_facts w2 s
 rw[hw3]at c0 f0 c1 c2 z3 b3
 have hz1:w.heap.size+1≤w1.heap.size:=by have:=hb1.size;simp at this;omega
 have hz2:w1.heap.size≤w2.heap.size:=hb2.size
 have hball:Below w.heap.size w w3:=((below9 w 0).trans (hb1.mono (by simp))).trans ((hb2.mono (by omega)).trans (b3.mono (by omega)))
 have hres:w3.cell? ⟨w.heap.size,0,none⟩=some (.int .i64 0):=by
  rw[b3.cell (p:=⟨w.heap.size,0,none⟩) (by show w.heap.size<_;omega),hb2.cell (p:=⟨w.heap.size,0,none⟩) (by show w.heap.size<_;omega),hb1.cell (p:=⟨w.heap.size,0,none⟩) (by simp)]
  exact(cell_new_l w (.int .i64 0) 31).1
 have hfro:w3.frozen? ⟨w.heap.size,0,none⟩=false:=by
  rw[b3.frozen (p:=⟨w.heap.size,0,none⟩) (by show w.heap.size<_;omega),hb2.frozen (p:=⟨w.heap.size,0,none⟩) (by show w.heap.size<_;omega),hb1.frozen (p:=⟨w.heap.size,0,none⟩) (by simp)]
  exact(cell_new_l w (.int .i64 0) 31).2
 have Z2:w2.heap.size+3≤w3.heap.size:=by omega
 clear hw3 hb1 hb2 b3 z3
 refine range_box (F:=Fence.wide) (n:=3) rfl (by omega) (gf:=103) (lb:= #[.pointer (some ⟨w2.heap.size+1,0,none⟩),.pointer (some ⟨w2.heap.size,0,none⟩),.pointer (some ⟨w2.heap.size+2,0,none⟩)]) rfl trivial
  (enters_of Tryz.func103 (by kernel_rfl) rfl) (split_box _ w2.heap.size s w3 hs c0 f0 c1 c2) (SameBoxes.refl _ _ _) Z2 rfl
  (fun pre W=>(W.cell? ⟨w.heap.size,0,none⟩=some (.int .i64 0)∧W.frozen? ⟨w.heap.size,0,none⟩=false∧Below w.heap.size w W)∧pre.all goodPart=true)
  (fun c _ W=>(W.cell? ⟨w.heap.size,0,none⟩=some (.int .i64 9)∧W.frozen? ⟨w.heap.size,0,none⟩=false∧Below w.heap.size w W)∧c= .ret∧R=9)
  ?hI ?hIx ⟨⟨hres,hfro,hball⟩,rfl⟩
  (fun x=> { tmps:= #[.string s,undef,.pointer (some ⟨w.heap.size,0,none⟩),strV x,.string s,.bool false,.bool false,.string s,.int .i64 s.size,.bool false,.bool false,.bool false,.string s,.bool true,.bool false,.bool false,.bool false,.string s,.bool false,.bool false,.string s,
   .func (.func 103) #[] #[.pointer (some ⟨w2.heap.size+1,0,none⟩),.pointer (some ⟨w2.heap.size,0,none⟩),.pointer (some ⟨w2.heap.size+2,0,none⟩)],strV x,undef,undef,undef,undef,undef,undef,undef,undef,undef,undef],defers:= [] }) ?assign ?body ?done ?stop
 case hI =>
  intro pre W W' row ⟨⟨q1,q2,q3⟩,q4⟩ hg' hr
  have hne:∀ r,row=some r→w.heap.size<r:=fun r e=>by rcases hr r e with h|h<;>omega
  have hlt:w.heap.size<W.heap.size:=by have:=World.block_lt_of_cell? W _ q1;simpa using this
  have hblk:W'.heap[w.heap.size]?=W.heap[w.heap.size]?:=hg'.block _ hlt (fun e=>by have:=hne _ e.symm;omega)
  exact⟨⟨(World.cell?_of_block (a:=⟨w.heap.size,0,none⟩) hblk).trans q1,by rw[← q2];simp only[World.frozen?];rw[hblk],q3.grown hg' (by omega) (fun r e=>by have:=hne r e;omega)⟩,q4⟩
 case hIx =>
  intro c pre W W' row ⟨⟨q1,q2,q3⟩,q4⟩ hg' hr
  have hne:∀ r,row=some r→w.heap.size<r:=fun r e=>by rcases hr r e with h|h<;>omega
  have hlt:w.heap.size<W.heap.size:=by have:=World.block_lt_of_cell? W _ q1;simpa using this
  have hblk:W'.heap[w.heap.size]?=W.heap[w.heap.size]?:=hg'.block _ hlt (fun e=>by have:=hne _ e.symm;omega)
  exact⟨⟨(World.cell?_of_block (a:=⟨w.heap.size,0,none⟩) hblk).trans q1,by rw[← q2];simp only[World.frozen?];rw[hblk],q3.grown hg' (by omega) (fun r e=>by have:=hne r e;omega)⟩,q4⟩
 case assign =>
  intro l x W K hK
  gi_wp2
  exact hK
 case body =>
  rintro l pre x W hsz ⟨⟨q1,q2,q3⟩,q4⟩ hpre
  have Q4:=Lib.hid q4
  have QP:=Lib.hid hpre
  have Q3:=Lib.hid q3
  clear q4 hpre q3
  have hB:∀ k,some k=(none:Option Nat)→False:=fun k e=>by cases e
  clear hB
  by_cases hx:goodPart x=true
  ·obtain⟨g0,g1,g2,g3⟩:=good_part hx
   have QX:=Lib.hid hx
   clear hx
   unfold strV
   have n0:¬ x= []:=by simpa using g0
   gi_wp2
   exact⟨KeepsFrom.refl _ _,SameBoxes.refl _ _ _,⟨q1,q2,Q3.out⟩,by rw[List.all_append,Q4.out];simp[QX.out]⟩
  ·have QX:Hid (R=9):=Lib.hid (by rw[HRH.out,part_bad QP.out (by simpa using hx)];rfl)
   unfold strV
   rcases bad_part x hx with⟨g0,g1⟩|⟨g0,g1,g2⟩|⟨g0,g1,g2,g3⟩
   ·have n0:x= []:=by simpa using g0
    clear hx
    gi_wp2
    exact⟨(KeepsOthers.setCell _ _ _).from _,⟨World.cell?_setCell_same' _ _ _ (by rw[q1];rfl),by rw[World.frozen?_setCell];exact q2,Q3.out.setCell (Nat.le_refl _) _⟩,rfl,QX.out⟩
   ·have n0:¬ x= []:=by simpa using g0
    clear hx
    gi_wp2
    exact⟨(KeepsOthers.setCell _ _ _).from _,⟨World.cell?_setCell_same' _ _ _ (by rw[q1];rfl),by rw[World.frozen?_setCell];exact q2,Q3.out.setCell (Nat.le_refl _) _⟩,rfl,QX.out⟩
   ·have n0:¬ x= []:=by simpa using g0
    clear hx
    gi_wp2
    exact⟨(KeepsOthers.setCell _ _ _).from _,⟨World.cell?_setCell_same' _ _ _ (by rw[q1];rfl),by rw[World.frozen?_setCell];exact q2,Q3.out.setCell (Nat.le_refl _) _⟩,rfl,QX.out⟩
 case done =>
  rintro D W hD ⟨⟨q1,q2,q3⟩,q4⟩ hK
  have QX:Hid (R=0):=Lib.hid (by rw[HRH.out];unfold chk;unfold parts at q4;rw[q4];rfl)
  clear q4
  gi_wp2
  have hne:w.heap.size≠D:=by have:=hball.size;omega
  refine⟨by simp,.inl ⟨_,_,rfl,run_takeDeferred ((KeepsOthers.setCell _ _ _).same D _ hK rfl),?_⟩⟩
  have hlt:w.heap.size<W.heap.size:=by have:=World.block_lt_of_cell? W _ q1;simpa using this
  have hc:((W.setCell ⟨w.heap.size,0,none⟩ (.int .i64 0)).putObj D (.deferred none)).cell? ⟨w.heap.size,0,none⟩=some (.int .i64 0):=by
   rw[World.cell?_of_block (a:=⟨w.heap.size,0,none⟩) (World.putObj_heap_other hne)]
   exact World.cell?_setCell_same' _ _ _ (by rw[q1];rfl)
  refine⟨.int .i64 0,by simp[results,Tryz.results39,go_sem,hc],by rw[QX.out],?_⟩
  exact(q3.setCell (Nat.le_refl _) _).grown (grownBy_putObj' _ _ _) (by simp;omega) (fun r e=>by cases e;omega)
 case stop =>
  rintro D c pre x W hD ⟨⟨q1,q2,q3⟩,rfl,rfl⟩ hK
  gi_wp2
  have hne:w.heap.size≠D:=by have:=hball.size;omega
  refine⟨by simp,.inl ⟨_,_,rfl,run_takeDeferred hK,?_⟩⟩
  have hlt:w.heap.size<W.heap.size:=by have:=World.block_lt_of_cell? W _ q1;simpa using this
  have hc:(W.putObj D (.deferred none)).cell? ⟨w.heap.size,0,none⟩=some (.int .i64 9):=by
   rw[World.cell?_of_block (a:=⟨w.heap.size,0,none⟩) (World.putObj_heap_other hne)]
   exact q1
  refine⟨.int .i64 9,by simp[results,Tryz.results39,go_sem,hc],rfl,?_⟩
  exact q3.grown (grownBy_putObj' _ _ _) (by omega) (fun r e=>by cases e;omega)
theorem check_calls (s:ByteArray) (w:World) (hs:s.size≤140737488351232) (hT:Tabs w) :
  Calls Tryz.prog 39 #[.string s] w fun e w'=>e= .returned (.int .i64 (errN (checkB s)))∧Below w.heap.size w w':=by
 cases hb:(decide (1≤s.size) && decide (s.size≤65535) && goodB s) with
 | false =>
  have e:checkB s=false:=by unfold checkB;rw[hb];rfl
  rw[e]
  exact check_short s w hs hT hb
 | true =>
  have e:checkB s=chk [] s.toList:=by unfold checkB;rw[hb];rfl
  rw[e]
  rw[Bool.and_eq_true,Bool.and_eq_true,decide_eq_true_eq,decide_eq_true_eq]at hb
  exact check_long s w hs hT hb.1.1 hb.1.2 hb.2
end Go.Proofs.YtgiogemkomgkhaaGreatDoor.Nm
namespace Go.Proofs.YtgiogemkomgkhaaGreatDoor.Nm
open Go.RowKit Go.Shelf
open Go.Maps (IsMap Keyed)
open Go.WideMaps (keyOf_string_mk)
def OwnSet (w:World) (b n:Nat) (S:List (List UInt8)):Prop :=
 ∃ D:DataW Unit,w.ownsMap Tryz.prog 9 (plainElem Tryz.prog 4) b n D∧IsMap D∧∀ k:List UInt8,D.atKey (.string k) (.lit (.bool false))= .lit (.bool (decide (k∈S)))∧Go.Maps.has D (.string k)=decide (k∈S)
theorem keyedStr:Keyed Tryz.prog 9:=Go.Maps.string_keyed Tryz.underlying9
theorem zeroBool (w:World):(zeroValue 4).run Tryz.prog w= .ok (.bool false) w:=by kernel_rfl
set_option maxRecDepth 100000 in
theorem plainElem_bool_inv {v:Value} {z:DataW Unit×List MemPlace} (h:plainElem Tryz.prog 4 v=some z):∃ x,v= .bool x∧z=(.lit (.bool x),[]):=by
 unfold plainElem at h
 rw[Tryz.underlying4]at h
 cases v<;>simp at h
 exact⟨_,rfl,h.symm⟩
theorem OwnSet.kept {w w':World} {row:Option Nat} {b n:Nat} {S:List (List UInt8)} (h:OwnSet w b n S) (hg:w.grownBy w' row) (hne:some b≠row):OwnSet w' b n S:=by
 obtain⟨D,h1,h2,h3⟩:=h
 exact⟨D,h1.kept hg hne,h2,h3⟩
theorem OwnSet.heap {w w':World} {b n:Nat} {S:List (List UInt8)} (h:OwnSet w b n S) (hb:w'.heap[b]?=w.heap[b]?):OwnSet w' b n S:=by
 obtain⟨D,⟨es,clock,hm,F,hs,hD⟩,h2,h3⟩:=h
 exact⟨D,⟨es,clock,hb.trans hm,F,hs,hD⟩,h2,h3⟩
theorem OwnSet.made (w:World):OwnSet (w.alloc (.map #[] 0)) w.heap.size 0 [] :=
 ⟨.map [],World.ownsMap_made _ _ _ _,⟨[],rfl⟩,fun k=>⟨by simp[DataW.atKey],by simp[Go.Maps.has]⟩⟩
theorem OwnSet.look {w:World} {b n:Nat} {S:List (List UInt8)} (h:OwnSet w b n S) (s:ByteArray) (hs:s.size≤maxLen) :
  (Instr.lookup 95 (.map (some b)) (.string s) false).run Tryz.prog w= .ok (.bool (decide (s.toList∈S))) w:=by
 obtain⟨D,h1,h2,h3⟩:=h
 obtain⟨v,ps,hrun,hv⟩:=h1.lookup keyedStr Tryz.underlying95 (zeroBool w) (plainElem_bool Tryz.underlying4 false) (keyOf_string_mk Tryz.underlying9 hs)
 obtain⟨x,rfl,hx⟩:=plainElem_bool_inv hv
 rw[(h3 _).1,← Lib.toList_data]at hx
 simp only[Prod.mk.injEq,DataW.lit.injEq,Lit.bool.injEq]at hx
 rw[hrun,← hx.1]
theorem OwnSet.store {w:World} {b n:Nat} {S:List (List UInt8)} (h:OwnSet w b n S) (s:ByteArray) (hs:s.size≤maxLen) (hn:n<maxLen) :
  ∃ w',(Instr.mapUpdate 95 (.map (some b)) (.string s) (.bool true)).run Tryz.prog w= .ok () w'∧OwnSet w' b (n+1) (S ++ [s.toList])∧w.grownBy w' (some b):=by
 obtain⟨D,h1,h2,h3⟩:=h
 obtain⟨w',hrun,ho,hg⟩:=h1.update keyedStr Tryz.underlying95 hn (keyOf_string_mk Tryz.underlying9 hs) (plainElem_bool Tryz.underlying4 true)
 refine⟨w',hrun,⟨_,ho,h2.put _ _,fun k=>?_⟩,hg⟩
 by_cases hk:k=s.data.toList
 ·subst hk
  rw[Go.Maps.atKey_put_same h2 (by simp[Go.WideAt.IsKeyLit]),Go.Maps.has_put_same h2 (by simp[Go.WideAt.IsKeyLit]),Lib.toList_data]
  have:decide (s.data.toList∈S ++ [s.data.toList])=true:=decide_eq_true (List.mem_append_right _ (List.mem_singleton.2 rfl))
  rw[this]
  exact⟨rfl,rfl⟩
 ·rw[Go.Maps.atKey_put_other (by simpa using hk),Go.Maps.has_put_other (by simpa using hk),(h3 _).1,(h3 _).2,Lib.toList_data]
  have:(k∈S)=(k∈S ++ [s.data.toList]):=by
   apply propext
   rw[List.mem_append,List.mem_singleton]
   exact⟨fun h=> .inl h,fun h=>h.elim id (fun h=>absurd h hk)⟩
  simp only[this]
  exact⟨trivial,trivial⟩
structure SeenAt (w:World) (bx bn bd n m:Nat) (S T:List (List UInt8)):Prop where
 c0:w.cell? ⟨bx,0,none⟩=some (.map (some bn))
 c1:w.cell? ⟨bx,1,none⟩=some (.map (some bd))
 names:OwnSet w bn n S
 dirs:OwnSet w bd m T
 ne:bn≠bd
 nx:bx≠bn
 dx:bx≠bd
theorem SeenAt.heap {w w':World} {bx bn bd n m:Nat} {S T:List (List UInt8)} (h:SeenAt w bx bn bd n m S T) (hb:∀ k,k=bx∨k=bn∨k=bd→w'.heap[k]?=w.heap[k]?):SeenAt w' bx bn bd n m S T :=
 ⟨(World.cell?_of_block (a:=⟨bx,0,none⟩) (hb bx (.inl rfl))).trans h.c0,(World.cell?_of_block (a:=⟨bx,1,none⟩) (hb bx (.inl rfl))).trans h.c1,h.names.heap (hb bn (.inr (.inl rfl))),h.dirs.heap (hb bd (.inr (.inr rfl))),h.ne,h.nx,h.dx⟩
def dirsUpto (l:List UInt8) (k:Nat):List (List UInt8):=((List.range k).filter fun i=>l[i]? == some 47).map fun i=>l.take i
def dirsOf (l:List UInt8):List (List UInt8):=dirsUpto l l.length
theorem dirs_zero (l:List UInt8):dirsUpto l 0= []:=rfl
theorem dirs_yes (l:List UInt8) (k:Nat) (h:l[k]?=some 47):dirsUpto l (k+1)=dirsUpto l k ++ [l.take k]:=by
 simp[dirsUpto,List.range_succ,List.filter_append,List.filter_cons,h]
theorem dirs_no (l:List UInt8) (k:Nat) (h:l[k]?≠some 47):dirsUpto l (k+1)=dirsUpto l k:=by
 simp[dirsUpto,List.range_succ,List.filter_append,List.filter_cons,h]
theorem extract_take0 (s:ByteArray) (n:Nat):(s.extract 0 n).toList=s.data.toList.take n:=by
 rw[Lib.toList_data,ByteArray.data_extract,Array.toList_extract,List.extract_eq_take_drop]
 simp
def clashB (S T:List (List UInt8)) (l:List UInt8):Bool:=decide (l∈S) || decide (l∈T) || (dirsOf l).any fun d=>decide (d∈S)
theorem drewN_heap (w:World) (q:Nat):(w.drewN q).heap=w.heap:=by
 induction q generalizing w with
 | zero=>rfl
 | succ q ih=>rw[← World.drew_drewN];exact ih w
theorem clash_stop (S:List (List UInt8)) (l:List UInt8) (k:Nat) (h:l[k]?=some 47) (hd:l.take k∈S):((dirsOf l).any fun d=>decide (d∈S))=true:=by
 rw[List.any_eq_true]
 refine⟨l.take k,?_,decide_eq_true hd⟩
 unfold dirsOf dirsUpto
 rw[List.mem_map]
 refine⟨k,?_,rfl⟩
 rw[List.mem_filter]
 refine⟨?_,by simp[h]⟩
 rw[List.mem_range]
 rcases Nat.lt_or_ge k l.length with h1|h1
 ·exact h1
 ·rw[List.getElem?_eq_none h1]at h;cases h
set_option maxHeartbeats 2000000 in
set_option maxRecDepth 100000 in
theorem clash_calls (bx bn bd n m:Nat) (S T:List (List UInt8)) (s:ByteArray) (w:World) (hs:s.size≤140737488351232) (hx:SeenAt w bx bn bd n m S T) :
  Calls Tryz.prog 40 #[.pointer (some ⟨bx,0,none⟩),.string s] w fun e w'=>e= .returned (.bool (clashB S T s.toList))∧∃ q,w'=w.drewN q:=by
 have hc0:=hx.c0
 have hc1:=hx.c1
 have HN:=Lib.hid hx.names
 have HD:=Lib.hid hx.dirs
 have l1:=hx.names.look s (by unfold maxLen;omega)
 have l2:=hx.dirs.look s (by unfold maxLen;omega)
 clear hx
 by_cases h1:s.toList∈S
 ·have e:Hid (clashB S T s.toList=true):=Lib.hid (by simp[clashB,h1])
  rw[decide_eq_true h1]at l1
  clear h1 l2
  go_enter Tryz.func40,Tryz.ntmps40
  go_wp2
  go_ret
  exact⟨by rw[e.out]<;>rfl,0,rfl⟩
 ·by_cases h2:s.toList∈T
  ·have e:Hid (clashB S T s.toList=true):=Lib.hid (by simp[clashB,h2])
   rw[decide_eq_false h1]at l1
   rw[decide_eq_true h2]at l2
   clear h1 h2
   go_enter Tryz.func40,Tryz.ntmps40
   go_wp2
   go_ret
   exact⟨by rw[e.out]<;>rfl,0,rfl⟩
  ·have e:Hid (clashB S T s.toList=(dirsOf s.toList).any fun d=>decide (d∈S)):=Lib.hid (by simp[clashB,h1,h2])
   rw[decide_eq_false h1]at l1
   rw[decide_eq_false h2]at l2
   clear h1 h2
   obtain⟨ANS,HA⟩:∃ b,b=clashB S T s.toList:=⟨_,rfl⟩
   rw[← HA]
   have HB:Hid (ANS=(dirsOf s.toList).any fun d=>decide (d∈S)):=Lib.hid (HA.trans e.out)
   clear e HA
   go_enter Tryz.func40,Tryz.ntmps40
   go_wp2
   clear l1 l2
   go_loopw [22] (fun i wr=>∃ k:Nat,k≤s.size∧i= .int .i64 k∧(∃ q,wr=w.drewN q)∧((dirsUpto s.toList k).any fun d=>decide (d∈S))=false) (fun i _=>s.size - (intOf i).toNat)
   case atStart=>exact⟨0,Nat.zero_le _,rfl,⟨0,rfl⟩,rfl⟩
   case round =>
    obtain⟨k,hk,rfl,⟨q,hq⟩,hn⟩:=hrel
    have HNo:=Lib.hid hn
    clear hn
    have HW:=Lib.hid hq
    have d0:wr.cell? ⟨bx,0,none⟩=some (.map (some bn)):=(World.cell?_of_block (a:=⟨bx,0,none⟩) (by rw[hq,drewN_heap])).trans hc0
    have HNr:Hid (OwnSet wr bn n S):=Lib.hid (HN.out.heap (by rw[hq,drewN_heap]))
    clear hq
    by_cases hlt:k<s.size
    ·have q1:decide ((k:Int)<(s.size:Int))=true:=decide_eq_true (by omega)
     have hget:s.toList[k]?=some s[k]:=by rw[Lib.toList_data,List.getElem?_eq_getElem (by simpa using hlt)];rfl
     by_cases h47:s[k]=47
     ·have q2:((s[k].toNat:Int) == 47)=true:=by rw[h47];rfl
      rw[h47]at hget
      have q3:((s[k].toNat:Int) ==(((⟨#[47]⟩:ByteArray)[0]'(by decide)).toNat:Int))=true:=by rw[h47];rfl
      have hext:(s.extract 0 k).toList=s.toList.take k:=by rw[extract_take0,Lib.toList_data]
      have hexs:(s.extract 0 k).size≤140737488351232:=by rw[ByteArray.size_extract];omega
      have hlk:∀ q',(Instr.lookup 95 (.map (some bn)) (.string (s.extract 0 k)) false).run Tryz.prog (wr.drewN q')= .ok (.bool (decide (s.toList.take k∈S))) (wr.drewN q'):=fun q'=>by
       rw[← hext]
       exact(HNr.out.heap (by rw[drewN_heap])).look _ (by unfold maxLen;omega)
      have hlk0:=hlk 0
      by_cases hin:s.toList.take k∈S
      ·have HA:Hid (ANS=true):=Lib.hid (by rw[HB.out];exact clash_stop S _ k hget hin)
       have hin':decide (s.toList.take k∈S)=true:=decide_eq_true hin
       clear hget hext hin h47
       go_wp2
       go_quiet (fail)
       go_wp2
       go_ret
       exact⟨by rw[HA.out]<;>rfl,by rw[HW.out];exact⟨_,World.drewN_drewN ..⟩⟩
      ·have HD:Hid ((dirsUpto s.toList (k+1)).any (fun d=>decide (d∈S))=false):=Lib.hid (by
        rw[dirs_yes _ _ hget,List.any_append,HNo.out]
        simp[hin])
       have hin':decide (s.toList.take k∈S)=false:=decide_eq_false hin
       clear hget hext hin h47
       go_wp2
       go_quiet (fail)
       go_wp2
       go_roundw
       case rel=>exact⟨k+1,by omega,by go_num,by rw[HW.out];exact⟨_,World.drewN_drewN ..⟩,HD.out⟩
       case measure=>simp[intOf];omega
     ·have q2:((s[k].toNat:Int) == 47)=false:=by
       rw[beq_eq_false_iff_ne]
       intro h
       exact h47 (UInt8.toNat_inj.1 (show s[k].toNat=47 by omega))
      have HD:Hid (dirsUpto s.toList (k+1)=dirsUpto s.toList k):=Lib.hid (dirs_no _ _ (by rw[hget];intro h;exact h47 (Option.some.inj h)))
      clear hget h47
      have q3:((s[k].toNat:Int) ==(((⟨#[47]⟩:ByteArray)[0]'(by decide)).toNat:Int))=false:=q2
      go_wp2
      go_quiet (fail)
      go_wp2
      go_roundw
      case rel=>exact⟨k+1,by omega,by go_num,by rw[HW.out];exact⟨_,World.drewN_drewN ..⟩,by rw[HD.out];exact HNo.out⟩
      case measure=>simp[intOf];omega
    ·have HA:Hid (ANS=false):=Lib.hid (by
      rw[HB.out]
      have e1:dirsOf s.toList=dirsUpto s.toList k:=by unfold dirsOf;rw[size_toList];congr 1;omega
      rw[e1]
      exact HNo.out)
     go_wp2
     go_ret
     exact⟨by rw[HA.out]<;>rfl,q,HW.out⟩
structure Touch (p:Nat→Prop) (w w':World):Prop where
 os:w'.os=w.os
 tape:w'.tape=w.tape
 output:w'.output=w.output
 size:w.heap.size≤w'.heap.size
 block:∀ k,k<w.heap.size→¬ p k→w'.heap[k]?=w.heap[k]?
theorem Touch.refl (p:Nat→Prop) (w:World):Touch p w w:=⟨rfl,rfl,rfl,Nat.le_refl _,fun _ _ _=>rfl⟩
theorem Touch.trans {p:Nat→Prop} {a b c:World} (h:Touch p a b) (k:Touch p b c):Touch p a c :=
 ⟨k.os.trans h.os,k.tape.trans h.tape,k.output.trans h.output,Nat.le_trans h.size k.size,fun i hi hp=>(k.block i (Nat.lt_of_lt_of_le hi h.size) hp).trans (h.block i hi hp)⟩
theorem Touch.of_grownBy {p:Nat→Prop} {a b:World} {row:Option Nat} (h:a.grownBy b row) (hr:∀ r,row=some r→p r):Touch p a b :=
 ⟨h.os,h.tape,h.output,h.size,fun i hi hp=>h.block i hi (fun e=>hp (hr i e.symm))⟩
theorem Touch.below {p:Nat→Prop} {a b:World} (h:Touch p a b) {B:Nat} (hB:B≤a.heap.size) (hp:∀ k,k<B→¬ p k):Below B a b :=
 ⟨h.os,h.tape,h.output,h.size,fun i hi=>h.block i (by omega) (hp i hi)⟩
theorem Touch.drewN {p:Nat→Prop} {a b:World} (h:Touch p a b) (q:Nat):Touch p a (b.drewN q):=by
 induction q generalizing b with
 | zero=>exact h
 | succ q ih=>rw[← World.drew_drewN];have h2:=ih h;exact⟨h2.os,h2.tape,h2.output,h2.size,h2.block⟩
set_option maxHeartbeats 2000000 in
set_option maxRecDepth 100000 in
theorem add_calls (bx bn bd n m:Nat) (S T:List (List UInt8)) (s:ByteArray) (w:World) (hs:s.size≤140737488351232) (hx:SeenAt w bx bn bd n m S T) (hn:n<maxLen) (hm:m+s.size<maxLen) :
  Calls Tryz.prog 41 #[.pointer (some ⟨bx,0,none⟩),.string s] w fun e w'=>e= .returned (.tuple #[])∧SeenAt w' bx bn bd (n+1) (m+s.size) (S ++ [s.toList]) (T++dirsOf s.toList)∧Touch (fun k=>k=bn∨k=bd) w w':=by
 obtain⟨w1,hrun,ho,hg⟩:=hx.names.store s (by unfold maxLen;omega) hn
 have hc0:=hx.c0
 have H1:Hid (SeenAt w1 bx bn bd (n+1) m (S ++ [s.toList]) T):=Lib.hid (by
  have hb:∀ k,k=bx∨k=bd→w1.heap[k]?=w.heap[k]?:=fun k hk=>hg.block k (by
   rcases hk with rfl|rfl
   ·have:=World.block_lt_of_cell? w _ hx.c0;exact this
   ·obtain⟨D,⟨es,cl,hm,_⟩,_⟩:=hx.dirs;exact(Array.getElem?_eq_some_iff.1 hm).1) (fun e=>by
   have h1:=hx.ne
   have h2:=hx.nx
   cases e
   rcases hk with h|h
   ·exact h2 h.symm
   ·exact h1 h)
  exact⟨(World.cell?_of_block (a:=⟨bx,0,none⟩) (hb bx (.inl rfl))).trans hx.c0,(World.cell?_of_block (a:=⟨bx,1,none⟩) (hb bx (.inl rfl))).trans hx.c1,ho,hx.dirs.heap (hb bd (.inr rfl)),hx.ne,hx.nx,hx.dx⟩)
 have HT:Hid (Touch (fun k=>k=bn∨k=bd) w w1):=Lib.hid (Touch.of_grownBy hg (fun r e=>by cases e;exact .inl rfl))
 clear ho hg hx
 go_enter Tryz.func41,Tryz.ntmps41
 go_wp2
 clear hrun hc0
 go_loopw [12] (fun i wr=>∃ k:Nat,k≤s.size∧i= .int .i64 k∧SeenAt wr bx bn bd (n+1) (m+k) (S ++ [s.toList]) (T++dirsUpto s.toList k)∧Touch (fun k=>k=bn∨k=bd) w wr) (fun i _=>s.size - (intOf i).toNat)
 case atStart=>exact⟨0,Nat.zero_le _,rfl,by rw[dirs_zero,List.append_nil];exact H1.out,HT.out⟩
 case round =>
  obtain⟨k,hk,rfl,hsn,ht⟩:=hrel
  have HS:=Lib.hid hsn
  have HTr:=Lib.hid ht
  clear hsn ht H1 HT
  by_cases hlt:k<s.size
  ·have q1:decide ((k:Int)<(s.size:Int))=true:=decide_eq_true (by omega)
   have hget:s.toList[k]?=some s[k]:=by rw[Lib.toList_data,List.getElem?_eq_getElem (by simpa using hlt)];rfl
   by_cases h47:s[k]=47
   ·have q2:((s[k].toNat:Int) == 47)=true:=by rw[h47];rfl
    have q3:((s[k].toNat:Int) ==(((⟨#[47]⟩:ByteArray)[0]'(by decide)).toNat:Int))=true:=q2
    rw[h47]at hget
    have HD:=Lib.hid (dirs_yes _ _ hget)
    have hext:=Lib.hid (extract_take0 s k)
    have hexs:(s.extract 0 k).size≤140737488351232:=by rw[ByteArray.size_extract];omega
    clear hget h47
    go_wp2
    go_quiet (fail)
    generalize hW:World.drewN _ _=w2
    have HS2:SeenAt w2 bx bn bd (n+1) (m+k) (S ++ [s.toList]) (T++dirsUpto s.toList k):=by rw[← hW];exact HS.out.heap (fun j _=>by rw[drewN_heap])
    have HT2:Hid (Touch (fun k=>k=bn∨k=bd) w w2):=Lib.hid (by rw[← hW];exact HTr.out.drewN _)
    clear hW
    have hc1:=HS2.c1
    have HS3:=Lib.hid HS2
    clear HS2
    go_wp2
    go_still_tail 7,(by kernel_rfl)
    change wpList _ _ _ _ _ w2.drew
    have HS4:SeenAt w2.drew bx bn bd (n+1) (m+k) (S ++ [s.toList]) (T++dirsUpto s.toList k):=HS3.out.heap (fun _ _=>rfl)
    have HT4:Hid (Touch (fun k=>k=bn∨k=bd) w w2.drew):=Lib.hid (HT2.out.drewN 1)
    generalize w2.drew=w3 at *
    clear hc1 HS3 HT2
    obtain⟨w4,hrun,ho,hg⟩:=HS4.dirs.store (s.extract 0 k) (by unfold maxLen;omega) (by omega)
    rw[hext.out]at ho
    have H5:Hid (SeenAt w4 bx bn bd (n+1) (m+k+1) (S ++ [s.toList]) (T++dirsUpto s.toList k ++ [List.take k s.toList])):=Lib.hid (by
     have hb:∀ j,j=bx∨j=bn→w4.heap[j]?=w3.heap[j]?:=fun j hj=>hg.block j (by
      rcases hj with rfl|rfl
      ·have:=World.block_lt_of_cell? w3 _ HS4.c0;exact this
      ·obtain⟨D,⟨es,cl,hm,_⟩,_⟩:=HS4.names;exact(Array.getElem?_eq_some_iff.1 hm).1) (fun e=>by
      have h1:=HS4.ne
      have h2:=HS4.dx
      cases e
      rcases hj with h|h
      ·exact h2 h.symm
      ·exact h1 h.symm)
     exact⟨(World.cell?_of_block (a:=⟨bx,0,none⟩) (hb bx (.inl rfl))).trans HS4.c0,(World.cell?_of_block (a:=⟨bx,1,none⟩) (hb bx (.inl rfl))).trans HS4.c1,HS4.names.heap (hb bn (.inr rfl)),by rw[← Lib.toList_data]at ho;exact ho,HS4.ne,HS4.nx,HS4.dx⟩)
    have HT5:Hid (Touch (fun k=>k=bn∨k=bd) w w4):=Lib.hid (HT4.out.trans (Touch.of_grownBy hg (fun r e=>by cases e;exact .inr rfl)))
    clear ho hg HS4 HT4
    go_wp2
    go_roundw
    case rel=>exact⟨k+1,by omega,by go_num,by rw[HD.out,← List.append_assoc];exact H5.out,HT5.out⟩
    case measure=>simp[intOf];omega
   ·have q2:((s[k].toNat:Int) == 47)=false:=by
     rw[beq_eq_false_iff_ne]
     intro h
     exact h47 (UInt8.toNat_inj.1 (show s[k].toNat=47 by omega))
    have q3:((s[k].toNat:Int) ==(((⟨#[47]⟩:ByteArray)[0]'(by decide)).toNat:Int))=false:=q2
    have HD:Hid (dirsUpto s.toList (k+1)=dirsUpto s.toList k):=Lib.hid (dirs_no _ _ (by rw[hget];intro h;exact h47 (Option.some.inj h)))
    clear hget h47
    go_wp2
    go_quiet (fail)
    generalize hW:World.drewN _ _=w2
    have h:SeenAt w2 bx bn bd (n+1) (m+k) (S ++ [s.toList]) (T++dirsUpto s.toList k):=by rw[← hW];exact HS.out.heap (fun j _=>by rw[drewN_heap])
    have HS2:Hid (SeenAt w2 bx bn bd (n+1) (m+(k+1)) (S ++ [s.toList]) (T++dirsUpto s.toList k)):=Lib.hid ⟨h.c0,h.c1,h.names,by obtain⟨D,h1,h2,h3⟩:=h.dirs;exact⟨D,h1.mono (by omega),h2,h3⟩,h.ne,h.nx,h.dx⟩
    have HT2:Hid (Touch (fun k=>k=bn∨k=bd) w w2):=Lib.hid (by rw[← hW];exact HTr.out.drewN _)
    clear hW h
    go_wp2
    go_roundw
    case rel=>exact⟨k+1,by omega,by go_num,by rw[HD.out];exact HS2.out,HT2.out⟩
    case measure=>simp[intOf];omega
  ·have hks:k=s.size:=by omega
   have HK:=Lib.hid hks
   clear hks
   go_wp2
   go_end0
   exact⟨rfl,by have h:=HS.out;rw[HK.out]at h;unfold dirsOf;rw[size_toList];exact h,HTr.out⟩
end Go.Proofs.YtgiogemkomgkhaaGreatDoor.Nm
namespace Go.Proofs.YtgiogemkomgkhaaGreatDoor.Nm
open Go.RowKit
def plainB (s:ByteArray):Bool:=s.data.toList.all fun c=>decide (c.toNat<128)
theorem plain_bad (s:ByteArray) (k:Nat) (h:k<s.size) (hb:128≤(s[k].toNat:Int)):plainB s=false:=by
 unfold plainB
 rw[List.all_eq_false]
 exact⟨s[k],by simp[ByteArray.getElem_eq_getElem_data],by simp;omega⟩
theorem plain_good (s:ByteArray) (h:∀ j (hj:j<s.size),s[j].toNat<128):plainB s=true:=by
 unfold plainB
 rw[List.all_eq_true]
 intro c hc
 obtain⟨j,hj,rfl⟩:=List.mem_iff_getElem.1 hc
 have:=h j (by simpa using hj)
 simpa[ByteArray.getElem_eq_getElem_data] using this
theorem plain_calls (s:ByteArray) (w:World) (hs:s.size≤maxLen) :
  Calls Tryz.prog 98 #[.string s] w fun e w'=>e= .returned (.bool (plainB s))∧w=w':=by
 unfold maxLen at hs
 go_enter Tryz.func98,Tryz.ntmps98
 go_wp2
 go_loop [6] (fun i=>∃ k:Nat,k≤s.size∧i= .int .i64 k∧∀ j (hj:j<s.size),j<k→s[j].toNat<128) (fun i=>s.size - (intOf i).toNat)
 case atStart=>exact⟨0,Nat.zero_le _,rfl,fun j hj h=>by omega⟩
 case round =>
  obtain⟨k,hk,rfl,hg⟩:=hrel
  have HG:=Lib.hid hg
  clear hg
  by_cases hlt:k<s.size
  ·by_cases hb:128≤(s[k].toNat:Int)
   ·have hp:=Lib.hid (plain_bad s k hlt hb)
    go_wp2
    go_ret
    exact⟨by rw[hp.out]<;>rfl,rfl⟩
   ·go_wp2
    go_round
    case rel=>exact⟨k+1,by omega,by go_num,fun j hj h=>by
     rcases Nat.lt_or_ge j k with h1|h1
     ·exact HG.out j hj h1
     ·obtain rfl:j=k:=by omega
      omega⟩
    case measure=>simp[intOf];omega
  ·have hp:=Lib.hid (plain_good s (fun j hj=>HG.out j hj (by omega)))
   go_wp2
   go_ret
   exact⟨by rw[hp.out]<;>rfl,rfl⟩
end Go.Proofs.YtgiogemkomgkhaaGreatDoor.Nm
namespace Go.Proofs.YtgiogemkomgkhaaGreatDoor.Nm
open Go.RowKit Go.Shelf
theorem checkB_data (s:ByteArray):checkB s=(decide (1≤s.size) && decide (s.size≤65535) && goodB s && chk [] s.data.toList):=by
 unfold checkB
 rw[Lib.toList_data]
theorem k1:errN (checkB ⟨#[97,47,98]⟩)=0:=by rw[checkB_data];decide +kernel
theorem k2:errN (checkB ⟨#[97,47,47,98]⟩)=9:=by rw[checkB_data];decide +kernel
theorem k3:errN (checkB ⟨#[46,46]⟩)=9:=by rw[checkB_data];decide +kernel
theorem k4:plainB ⟨#[97]⟩=true:=by decide +kernel
theorem k5:plainB ⟨#[195,169]⟩=false:=by decide +kernel
theorem k6:errN (checkB ⟨#[195,169]⟩)=0:=by rw[checkB_data];decide +kernel
def belowB (s d:ByteArray):Bool:=Lib.hasPrefix s.data.toList (d.data.toList ++ [47])
theorem below_iff (s d:ByteArray):belowB s d=true↔s.data.toList.take d.size=d.data.toList∧s.data.toList[d.size]?=some 47:=by
 unfold belowB Lib.hasPrefix
 have hd:d.data.toList.length=d.size:=rfl
 rw[List.isPrefixOf_iff_prefix,List.prefix_iff_eq_take,List.length_append,List.length_singleton,hd,List.take_add_one]
 constructor
 ·intro h
  by_cases hl:d.size≤s.data.toList.length
  ·have h1:=List.append_inj h (by rw[List.length_take,hd];omega)
   refine⟨h1.1.symm,?_⟩
   cases hx:s.data.toList[d.size]? with
   | none=>rw[hx]at h1;simp at h1
   | some x=>rw[hx]at h1;simp at h1;rw[← h1.2]
  ·have:=congrArg List.length h
   rw[List.getElem?_eq_none (by omega)]at this
   simp only[List.length_append,List.length_singleton,List.length_take,hd,Option.toList_none,List.length_nil]at this
   omega
 ·rintro⟨h1,h2⟩
  rw[h1,h2]
  rfl
theorem extract_take (s:ByteArray) (n:Nat):(s.extract 0 n).toList=s.data.toList.take n:=by
 rw[Lib.toList_data,ByteArray.data_extract,Array.toList_extract,List.extract_eq_take_drop]
 simp
set_option maxHeartbeats 1000000 in
theorem refbelow_calls (s d:ByteArray) (w:World) (hs:s.size≤140737488351232) (hd:d.size≤140737488351232) :
  Calls Tryz.prog 18 #[.string s,.string d] w fun e w'=>e= .returned (.bool (belowB s d))∧w=w':=by
 have hl:s.data.toList.length=s.size:=rfl
 by_cases h1:d.size<s.size
 ·have t1:decide ((d.size:Int)<(s.size:Int))=true:=decide_eq_true (by omega)
  by_cases h2:(s.extract 0 d.size).toList=d.toList
  ·have h2b:((s.extract 0 d.size).toList == d.toList)=true:=beq_iff_eq.2 h2
   have hx:s.data.toList[d.size]?=some s[d.size]:=by rw[List.getElem?_eq_getElem (by rw[hl];exact h1)];rfl
   by_cases h3:s[d.size]=47
   ·have e:Hid (belowB s d=true):=Lib.hid ((below_iff s d).2 ⟨by rw[← extract_take,h2,Lib.toList_data],by rw[hx,h3]⟩)
    have t3:((s[d.size].toNat:Int) == 47)=true:=by rw[h3];rfl
    clear h2 hx h3 hl
    go_enter Tryz.func18,Tryz.ntmps18
    go_wp2
    go_ret
    exact⟨by rw[e.out]<;>rfl,rfl⟩
   ·have e:Hid (belowB s d=false):=Lib.hid (by
     rw[Bool.eq_false_iff]
     intro h
     have:=((below_iff s d).1 h).2
     rw[hx]at this
     exact h3 (Option.some.inj this))
    have t3:((s[d.size].toNat:Int) == 47)=false:=by
     rw[beq_eq_false_iff_ne]
     intro h
     exact h3 (UInt8.toNat_inj.1 (show s[d.size].toNat=47 by omega))
    clear h2 hx h3 hl
    go_enter Tryz.func18,Tryz.ntmps18
    go_wp2
    go_ret
    exact⟨by rw[e.out]<;>rfl,rfl⟩
  ·have e:Hid (belowB s d=false):=Lib.hid (by
    rw[Bool.eq_false_iff]
    intro h
    exact h2 (by rw[extract_take,((below_iff s d).1 h).1,Lib.toList_data]))
   have h2b:((s.extract 0 d.size).toList == d.toList)=false:=beq_eq_false_iff_ne.2 h2
   clear h2 hl
   go_enter Tryz.func18,Tryz.ntmps18
   go_wp2
   go_ret
   exact⟨by rw[e.out]<;>rfl,rfl⟩
 ·have e:Hid (belowB s d=false):=Lib.hid (by
   rw[Bool.eq_false_iff]
   intro h
   have:=((below_iff s d).1 h).2
   rw[List.getElem?_eq_none (by rw[hl];omega)]at this
   cases this)
  have t1:decide ((d.size:Int)<(s.size:Int))=false:=decide_eq_false (by omega)
  clear hl
  go_enter Tryz.func18,Tryz.ntmps18
  go_wp2
  go_ret
  exact⟨by rw[e.out]<;>rfl,rfl⟩
end Go.Proofs.YtgiogemkomgkhaaGreatDoor.Nm
namespace Go.Proofs.YtgiogemkomgkhaaGreatDoor.Nm
open Go.RowKit Go.Shelf
def namesTo (xs:List ByteArray) (k:Nat):List (List UInt8):=(xs.take k).map fun x=>x.toList
def dirsTo (xs:List ByteArray) (k:Nat):List (List UInt8):=(xs.take k).flatMap fun x=>dirsOf x.toList
theorem namesTo_succ (xs:List ByteArray) (k:Nat) (h:k<xs.length):namesTo xs (k+1)=namesTo xs k ++ [xs[k].toList]:=by
 unfold namesTo
 rw[List.take_succ_eq_append_getElem h,List.map_append]
 rfl
theorem dirsTo_succ (xs:List ByteArray) (k:Nat) (h:k<xs.length):dirsTo xs (k+1)=dirsTo xs k++dirsOf xs[k].toList:=by
 unfold dirsTo
 rw[List.take_succ_eq_append_getElem h,List.flatMap_append]
 simp
def errAt (xs:List ByteArray) (k:Nat):Int :=
 match xs[k]? with
 | none=>0
 | some s=>if checkB s then(if clashB (namesTo xs k) (dirsTo xs k) s.toList then 10 else 0) else 9
def allB (xs:List ByteArray):Int×Int :=
 match (List.range xs.length).find? fun k=>errAt xs k != 0 with
 | some k=>(k,errAt xs k)
 | none=>(0,0)
theorem allB_at (xs:List ByteArray) (k:Nat) (hk:k<xs.length) (he:errAt xs k≠0) (hb:∀ j,j<k→errAt xs j=0):allB xs=((k:Int),errAt xs k):=by
 have h:(List.range xs.length).find? (fun k=>errAt xs k != 0)=some k:=by
  rw[List.find?_range_eq_some]
  refine⟨by simpa using he,by simpa using hk,fun j hj=>by simp[hb j hj]⟩
 unfold allB
 rw[h]
theorem allB_none (xs:List ByteArray) (hb:∀ j,j<xs.length→errAt xs j=0):allB xs=(0,0):=by
 have h:(List.range xs.length).find? (fun k=>errAt xs k != 0)=none:=by
  rw[List.find?_eq_none]
  intro j hj
  simp[hb j (by simpa using hj)]
 unfold allB
 rw[h]
theorem SeenAt.mono {w:World} {bx bn bd n m n' m':Nat} {S T:List (List UInt8)} (h:SeenAt w bx bn bd n m S T) (h1:n≤n') (h2:m≤m'):SeenAt w bx bn bd n' m' S T:=by
 obtain⟨D,d1,d2,d3⟩:=h.names
 obtain⟨E,e1,e2,e3⟩:=h.dirs
 exact⟨h.c0,h.c1,⟨D,d1.mono h1,d2,d3⟩,⟨E,e1.mono h2,e2,e3⟩,h.ne,h.nx,h.dx⟩
theorem SeenAt.lt {w:World} {bx bn bd n m:Nat} {S T:List (List UInt8)} (h:SeenAt w bx bn bd n m S T):bx<w.heap.size∧bn<w.heap.size∧bd<w.heap.size:=by
 obtain⟨D,⟨es,cl,hm,_⟩,_⟩:=h.names
 obtain⟨E,⟨es',cl',hm',_⟩,_⟩:=h.dirs
 exact⟨World.block_lt_of_cell? w _ h.c0,(Array.getElem?_eq_some_iff.1 hm).1,(Array.getElem?_eq_some_iff.1 hm').1⟩
theorem SeenAt.below {w w':World} {bx bn bd n m:Nat} {S T:List (List UInt8)} (h:SeenAt w bx bn bd n m S T) (hb:Below w.heap.size w w'):SeenAt w' bx bn bd n m S T:=by
 have hl:=h.lt
 exact h.heap (fun k hk=>hb.block k (by rcases hk with rfl|rfl|rfl<;>omega))
abbrev wSeen (w:World):World:=((w.alloc (.map #[] 0)).alloc (.map #[] 0)).alloc (.cells #[.map (some w.heap.size),.map (some (w.heap.size+1))] 97)
theorem seen_start (w:World):SeenAt (wSeen w) (w.heap.size+2) w.heap.size (w.heap.size+1) 0 0 [] []:=by
 have z1:(w.alloc (.map #[] 0)).heap.size=w.heap.size+1:=by simp
 have z2:((w.alloc (.map #[] 0)).alloc (.map #[] 0)).heap.size=w.heap.size+2:=by simp
 have a:=OwnSet.made w
 have b:=OwnSet.made (w.alloc (.map #[] 0))
 rw[z1]at b
 have c:=World.alloc_heap_new ((w.alloc (.map #[] 0)).alloc (.map #[] 0)) (.cells #[.map (some w.heap.size),.map (some (w.heap.size+1))] 97)
 rw[z2]at c
 refine⟨?_,?_,?_,?_,by omega,by omega,by omega⟩
 ·simp only[World.cell?]
  rw[c]
  rfl
 ·simp only[World.cell?]
  rw[c]
  rfl
 ·exact(a.kept (World.grownBy_alloc _ _ none) (by simp)).kept (World.grownBy_alloc _ _ none) (by simp)
 ·exact b.kept (World.grownBy_alloc _ _ none) (by simp)
theorem seen_below (w:World):Below w.heap.size w (wSeen w):=(((Below.refl _ w).alloc (Nat.le_refl _) _).alloc (by simp) _).alloc (by simp;omega) _
set_option maxHeartbeats 2000000 in
set_option maxRecDepth 100000 in
theorem all_calls (A:Option Addr) (c:Nat) (xs:List ByteArray) (w:World) (hT:Tabs w) (hlen:xs.length≤1048576) (hxs:∀ x∈xs,x.size≤140737488351232)
  (hA:∀ j (h:j<xs.length),∃ b o,A=some ⟨b,o,none⟩∧w.cell? ⟨b,o+j,none⟩=some (.string xs[j])) :
  Calls Tryz.prog 23 #[.slice A xs.length c] w fun e w'=>e= .returned (.tuple #[.int .i64 (allB xs).1,.int .i64 (allB xs).2])∧Below w.heap.size w w':=by
 have hmm:=@run_makeMap Tryz.prog
 obtain⟨a1,a2,HE⟩:∃ a1 a2,allB xs=(a1,a2):=⟨_,_,rfl⟩
 rw[HE]
 have HAns:=Lib.hid HE
 have HC:=Lib.hid hA
 have HX:=Lib.hid hxs
 have HTa:Hid (∀ wx,Below w.heap.size w wx→Tabs wx):=Lib.hid (fun wx h=>hT.below h)
 have S0:=Lib.hid (seen_start w)
 have B0:=Lib.hid (seen_below w)
 have t0:decide (1048576<(xs.length:Int))=false:=decide_eq_false (by omega)
 clear HE hA hxs hT
 go_enter Tryz.func23,Tryz.ntmps23
 go_wp2
 clear hmm
 go_loopw [17] (fun i wr=>∃ k:Nat,k≤xs.length∧i= .int .i64 k∧SeenAt wr (w.heap.size+2) w.heap.size (w.heap.size+1) k (k*65536) (namesTo xs k) (dirsTo xs k)∧Below w.heap.size w wr∧∀ j,j<k→errAt xs j=0) (fun i _=>xs.length - (intOf i).toNat)
 case atStart=>exact⟨0,Nat.zero_le _,rfl,S0.out,B0.out,fun j h=>by omega⟩
 case round =>
  obtain⟨k,hk,rfl,hs,hb,he⟩:=hrel
  have HS:=Lib.hid hs
  have HB:=Lib.hid hb
  have HJ:=Lib.hid he
  have hTr:=HTa.out wr hb
  clear hs hb he S0 B0
  by_cases hlt:k<xs.length
  ·have q1:decide ((k:Int)<(xs.length:Int))=true:=decide_eq_true (by omega)
   obtain⟨b,o,rfl,hcell⟩:=HC.out k hlt
   have hcr:wr.cell? ⟨b,o+k,none⟩=some (.string xs[k]):=(HB.out.cell (World.block_lt_of_cell? w _ hcell)).trans hcell
   have hsz:=HX.out xs[k] (List.getElem_mem hlt)
   have hat:xs[k]?=some xs[k]:=List.getElem?_eq_getElem hlt
   obtain⟨s,hsk⟩:∃ s,s=xs[k]:=⟨_,rfl⟩
   rw[← hsk]at hcr hsz hat
   have HSK:=Lib.hid hsk
   clear hsk hcell
   cases hc:checkB s with
   | false =>
    have er:errAt xs k=9:=by unfold errAt;rw[hat];simp[hc]
    have HR:=Lib.hid (HAns.out.symm.trans (allB_at xs k hlt (by omega) HJ.out))
    have HER:=Lib.hid er
    have v1:errN false=9:=rfl
    clear er hat
    go_wp2_with (go_at_call 39;refine(check_calls _ _ hsz hTr).mono ?_;rintro e w3 ⟨rfl,hb⟩;replace HS:=Lib.hid (HS.out.below hb);replace HB:=Lib.hid (HB.out.trans (hb.mono HB.out.size));clear hb)
    go_ret2
    have h:=HR.out
    simp only[Prod.mk.injEq]at h
    exact⟨by rw[h.1,h.2,HER.out]<;>rfl,HB.out⟩
   | true =>
    have v1:errN true=0:=rfl
    have hs5:s.size≤65535:=by
     unfold checkB at hc
     simp only[Bool.and_eq_true,decide_eq_true_eq]at hc
     exact hc.1.1.2
    cases hcl:clashB (namesTo xs k) (dirsTo xs k) s.toList with
    | true =>
     have er:errAt xs k=10:=by unfold errAt;rw[hat];simp[hc,hcl]
     have HR:=Lib.hid (HAns.out.symm.trans (allB_at xs k hlt (by omega) HJ.out))
     have HER:=Lib.hid er
     clear er hat
     go_wp2_with (first|(go_at_call 39;refine(check_calls _ _ hsz hTr).mono ?_;rintro e w3 ⟨rfl,hb⟩;replace HS:=Lib.hid (HS.out.below hb);replace HB:=Lib.hid (HB.out.trans (hb.mono HB.out.size));clear hb)|(go_at_call 40;refine(clash_calls _ _ _ _ _ _ _ _ _ hsz HS.out).mono ?_;rintro e w4 ⟨rfl,q,rfl⟩;replace HS:=Lib.hid (HS.out.heap (w':=World.drewN _ q) (fun j _=>by rw[drewN_heap]));replace HB:=Lib.hid (HB.out.trans ((below_drewN _ q).mono HB.out.size))))
     go_ret2
     have h:=HR.out
     simp only[Prod.mk.injEq]at h
     exact⟨by rw[h.1,h.2,HER.out]<;>rfl,HB.out⟩
    | false =>
     have er:errAt xs k=0:=by unfold errAt;rw[hat];simp[hc,hcl]
     have HER:=Lib.hid er
     have HN1:=Lib.hid (namesTo_succ xs k hlt)
     have HD1:=Lib.hid (dirsTo_succ xs k hlt)
     clear er hat
     go_wp2_with (first|(go_at_call 39;refine(check_calls _ _ hsz hTr).mono ?_;rintro e w3 ⟨rfl,hb⟩;replace HS:=Lib.hid (HS.out.below hb);replace HB:=Lib.hid (HB.out.trans (hb.mono HB.out.size));clear hb)|(go_at_call 40;refine(clash_calls _ _ _ _ _ _ _ _ _ hsz HS.out).mono ?_;rintro e w4 ⟨rfl,q,rfl⟩;replace HS:=Lib.hid (HS.out.heap (w':=World.drewN _ q) (fun j _=>by rw[drewN_heap]));replace HB:=Lib.hid (HB.out.trans ((below_drewN _ q).mono HB.out.size)))|(go_at_call 41;refine(add_calls _ _ _ _ _ _ _ _ _ hsz HS.out (by unfold maxLen;omega) (by unfold maxLen;omega)).mono ?_;rintro e w5 ⟨rfl,hs5,ht5⟩;replace HS:=Lib.hid hs5;replace HB:=Lib.hid (HB.out.trans (ht5.below HB.out.size (fun j hj hp=>by rcases hp with h|h<;>omega)));clear hs5 ht5))
     go_roundw
     case rel =>
      refine⟨k+1,by omega,by go_num,?_,HB.out,fun j hj=>?_⟩
      ·rw[HN1.out,HD1.out,← HSK.out]
       exact HS.out.mono (by omega) (by omega)
      ·rcases Nat.lt_or_ge j k with h|h
       ·exact HJ.out j h
       ·obtain rfl:j=k:=by omega
        exact HER.out
     case measure=>simp[intOf];omega
  ·have HR:=Lib.hid (HAns.out.symm.trans (allB_none xs (fun j hj=>HJ.out j (by omega))))
   go_wp2
   go_ret2
   have h:=HR.out
   simp only[Prod.mk.injEq]at h
   exact⟨by rw[h.1,h.2]<;>rfl,HB.out⟩
end Go.Proofs.YtgiogemkomgkhaaGreatDoor.Nm
namespace Go.Proofs.YtgiogemkomgkhaaGreatDoor.Fa
open Go Go.ChangeShapes Go.WideShapes Go.ChangeAt Go.RowKit
def StrsOf (w:World) (v:Value) (xs:List ByteArray):Prop :=
 (∃ a c,v= .slice a 0 c∧xs= []∧(a=none→c=0)∧c≤140737488351232) ∨
 (∃ b o c,v= .slice (some ⟨b,o,none⟩) xs.length c∧0<xs.length∧xs.length≤c∧c≤140737488351232∧b<w.heap.size∧∀ j (h:j<xs.length),w.cell? ⟨b,o+j,none⟩=some (.string xs[j]))
def IntsOf (w:World) (k:IntKind) (v:Value) (xs:List Int):Prop :=
 (∃ a c,v= .slice a 0 c∧xs= []∧(a=none→c=0)∧c≤140737488351232) ∨
 (∃ b o c,v= .slice (some ⟨b,o,none⟩) xs.length c∧0<xs.length∧xs.length≤c∧c≤140737488351232∧b<w.heap.size∧∀ j (h:j<xs.length),w.cell? ⟨b,o+j,none⟩=some (.int k xs[j]))
theorem mem_weightsAll {H:Type} {P:Program} {e:TypeId}:∀ {l:List (DataW H)} {d:DataW H},d∈l→∀ n∈d.weights P e,n∈DataW.weightsAll P e l
 | x::l,d,hd,n,hn=>by
  unfold DataW.weightsAll
  rw[List.mem_append]
  rcases List.mem_cons.1 hd with rfl|h
  ·exact .inl hn
  ·exact .inr (mem_weightsAll h n hn)
section
variable {H:Type} {enc:TypeId×Value→H} {P:Program} {w:World}
end
end Go.Proofs.YtgiogemkomgkhaaGreatDoor.Fa
namespace Go.Proofs.YtgiogemkomgkhaaGreatDoor.Nm
open Go.RowKit Go.Shelf
theorem mem_dirsOf (l d:List UInt8):d∈dirsOf l↔l.take d.length=d∧l[d.length]?=some 47:=by
 unfold dirsOf dirsUpto
 rw[List.mem_map]
 constructor
 ·rintro⟨i,hi,rfl⟩
  rw[List.mem_filter,List.mem_range]at hi
  have e:(l.take i).length=i:=by rw[List.length_take];omega
  rw[e]
  exact⟨rfl,by simpa using hi.2⟩
 ·rintro⟨h1,h2⟩
  refine⟨d.length,?_,h1⟩
  rw[List.mem_filter,List.mem_range]
  refine⟨?_,by simp[h2]⟩
  rcases Nat.lt_or_ge d.length l.length with h|h
  ·exact h
  ·rw[List.getElem?_eq_none h]at h2;cases h2
theorem below_dirs (s d:ByteArray):belowB s d=true↔d.toList∈dirsOf s.toList:=by
 rw[below_iff,mem_dirsOf,size_toList,Lib.toList_data,Lib.toList_data]
def meetB (a b:ByteArray):Bool:=(a.toList == b.toList) || belowB b a || belowB a b
theorem clash_meets (xs:List ByteArray) (i:Nat) (s:ByteArray):clashB (namesTo xs i) (dirsTo xs i) s.toList=true↔∃ x∈xs.take i,meetB x s=true:=by
 unfold clashB meetB namesTo dirsTo
 simp only[Bool.or_eq_true,decide_eq_true_eq,List.any_eq_true,List.mem_map,List.mem_flatMap,beq_iff_eq]
 constructor
 ·rintro((⟨x,hx,e⟩|⟨x,hx,e⟩)|⟨d,hd,x,hx,rfl⟩)
  ·exact⟨x,hx,.inl (.inl e)⟩
  ·exact⟨x,hx,.inr ((below_dirs x s).2 e)⟩
  ·exact⟨x,hx,.inl (.inr ((below_dirs s x).2 hd))⟩
 ·rintro⟨x,hx,(e|e)|e⟩
  ·exact .inl (.inl ⟨x,hx,e⟩)
  ·exact .inr ⟨x.toList,(below_dirs s x).1 e,x,hx,rfl⟩
  ·exact .inl (.inr ⟨x,hx,(below_dirs x s).1 e⟩)
theorem err_bad (xs:List ByteArray) (i:Nat) (hi:i<xs.length) (h:checkB xs[i]=false):errAt xs i=9:=by
 unfold errAt
 rw[List.getElem?_eq_getElem hi]
 simp[h]
theorem err_meet (xs:List ByteArray) (i k:Nat) (hi:i<xs.length) (hk:k<i) (h:checkB xs[i]=true) (hm:meetB xs[k] xs[i]=true):errAt xs i=10:=by
 have hc:clashB (namesTo xs i) (dirsTo xs i) xs[i].toList=true:=(clash_meets xs i xs[i]).2 ⟨xs[k],by
  rw[List.mem_iff_getElem]
  exact⟨k,by rw[List.length_take];omega,by rw[List.getElem_take]⟩,hm⟩
 unfold errAt
 rw[List.getElem?_eq_getElem hi]
 simp[h,hc]
theorem err_fine (xs:List ByteArray) (i:Nat) (hi:i<xs.length) (h:checkB xs[i]=true) (hm:∀ k (hk:k<i),meetB xs[k] xs[i]=false):errAt xs i=0:=by
 have hc:clashB (namesTo xs i) (dirsTo xs i) xs[i].toList=false:=by
  rw[Bool.eq_false_iff]
  intro hc
  obtain⟨x,hx,e⟩:=(clash_meets xs i xs[i]).1 hc
  obtain⟨k,hk,rfl⟩:=List.mem_iff_getElem.1 hx
  rw[List.length_take]at hk
  rw[List.getElem_take,hm k (by omega)]at e
  cases e
 unfold errAt
 rw[List.getElem?_eq_getElem hi]
 simp[h,hc]
theorem refbelow_same (s d:ByteArray) (w:World) (hs:s.size≤140737488351232) (hd:d.size≤140737488351232) :
  Calls Tryz.prog 18 #[.string s,.string d] w fun e w'=>e= .returned (.bool (belowB s d))∧w'=w :=
 (refbelow_calls s d w hs hd).mono fun _ _ ⟨h1,h2⟩=>⟨h1,h2.symm⟩
end Go.Proofs.YtgiogemkomgkhaaGreatDoor.Nm
