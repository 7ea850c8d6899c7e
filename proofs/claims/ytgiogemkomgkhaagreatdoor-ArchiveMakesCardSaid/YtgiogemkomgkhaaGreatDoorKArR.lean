/-
  lighterref15.Check: as archive.Check.
-/
import Derived.Test.YtgiogemkomgkhaaGreatDoorKReg
import Derived.Test.YtgiogemkomgkhaaGreatDoorKArS
import Derived.Test.YtgiogemkomgkhaaGreatDoorKZpTime3c
set_option linter.unusedVariables false
set_option linter.unusedSimpArgs false
namespace Go.Proofs.YtgiogemkomgkhaaGreatDoor.Ri
open Go Go.RowKit Zp Mt Ar
theorem worldsX (PW:(Nat→Bool)→(Nat→Value)→World→Prop):∃ (U:Type) (f:U→World),(∀ L X w,PW L X w→∃ u,w=f u)∧∀ u,∃ L X,PW L X (f u) :=
 ⟨{p:(Nat→Bool)×(Nat→Value)×World // PW p.1 p.2.1 p.2.2},fun u=>u.1.2.2,fun L X w h=>⟨⟨(L,X,w),h⟩,rfl⟩,fun u=>⟨u.1.1,u.1.2.1,u.2⟩⟩
structure Side where
 (T sz:Nat)
 (v:Value)
 (xs new:List Value)
 (l p q:Nat)
def SideP (B n:Nat) (w0:World) (s:Side) (L:Nat→Bool) (X:Nat→Value) (wx:World):Prop :=
 (L s.l=true→L s.p=false→∃ b,X s.l= .slice (some ⟨b,0,none⟩) 1 1∧w0.heap.size≤b∧Blk b s.new.toArray s.T wx) ∧
 (L s.p=false→wx.ownsRow B s.T s.sz s.v n s.xs)∧(L s.p=true→wx.ownsRow B s.T s.sz (X s.p) (n+1) (s.xs++s.new))∧(L s.q=true→L s.p=true∧X s.q=X s.p)
def TwoP (B n:Nat) (w0:World) (s t:Side) (L:Nat→Bool) (X:Nat→Value) (wx:World):Prop :=
 Turn (fun j=>s.v.ownBlock=some j∨t.v.ownBlock=some j) w0 wx∧SideP B n w0 s L X wx∧SideP B n w0 t L X wx
section
variable {B n:Nat} {w0 wx:World} {s t:Side} {L:Nat→Bool} {X:Nat→Value}
theorem side_stable (h:SideP B n w0 s L X wx) {i:Nat} (h1:i≠s.l) (h2:i≠s.p) (h3:i≠s.q) (v:Value):SideP B n w0 s (upd L i) (updX X i v) wx:=by
 unfold SideP
 rw[upd_other L i _ (Ne.symm h1),upd_other L i _ (Ne.symm h2),upd_other L i _ (Ne.symm h3),updX_other X i _ v (Ne.symm h1),updX_other X i _ v (Ne.symm h2),updX_other X i _ v (Ne.symm h3)]
 exact h
theorem side_still (h:SideP B n w0 s L X wx) {i:Nat} (h1:i≠s.l) (h2:i≠s.p) (h3:i≠s.q):SideP B n w0 s (upd L i) X wx:=by
 unfold SideP
 rw[upd_other L i _ (Ne.symm h1),upd_other L i _ (Ne.symm h2),upd_other L i _ (Ne.symm h3)]
 exact h
theorem side_world (h:SideP B n w0 s L X wx) {wy:World} (hb:∀ j:Nat,(∃ cs:Array Value,wx.heap[j]?=some (Obj.cells cs s.T (0,0)))→wy.heap[j]?=wx.heap[j]?):SideP B n w0 s L X wy:=by
 have hrow:∀ {v:Value} {n:Nat} {xs:List Value},wx.ownsRow B s.T s.sz v n xs→wy.ownsRow B s.T s.sz v n xs:=fun {v n xs} k=>own_same k (fun j hj=>by
  rcases k.2 with⟨rfl,_⟩|⟨g,cap,cur,rfl,h1,h2,rest⟩
  ·cases hj
  ·simp only[Value.ownBlock,Option.some.injEq]at hj
   subst hj
   exact hb _ ⟨_,h2⟩)
 refine⟨fun h1 h2=>?_,fun h1=>hrow (h.2.1 h1),fun h1=>hrow (h.2.2.1 h1),h.2.2.2⟩
 obtain⟨b,e1,e2,e3⟩:=h.1 h1 h2
 exact⟨b,e1,e2,(hb b ⟨_,e3⟩).trans e3⟩
theorem side_lit (h:SideP B n w0 s L X wx) (hl:L s.l=false) (hsz:w0.heap.size≤wx.heap.size) (h1:s.l≠s.p) (h2:s.l≠s.q):SideP B n w0 s (upd L s.l) (updX X s.l (.slice (some ⟨wx.heap.size,0,none⟩) 1 1)) (wx.alloc (.cells s.new.toArray s.T)):=by
 have h0:=side_world h (wy:=wx.alloc (.cells s.new.toArray s.T)) (fun j ⟨cs,hj⟩=>Below.heap_alloc _ _ _ (Array.getElem?_eq_some_iff.1 hj).1)
 unfold SideP at h0 ⊢
 rw[upd_same,updX_same,upd_other L s.l _ (Ne.symm h1),upd_other L s.l _ (Ne.symm h2),updX_other X s.l _ _ (Ne.symm h1),updX_other X s.l _ _ (Ne.symm h2)]
 exact⟨fun _ _=>⟨wx.heap.size,rfl,hsz,Blk.new _ _ _⟩,h0.2.1,h0.2.2.1,h0.2.2.2⟩
theorem side_app {B n:Nat} {w0 wx:World} {s:Side} {L:Nat→Bool} {X:Nat→Value} {v':Value} {wy:World} (h:SideP B n w0 s L X wx) (hp:L s.p=false) (h1:s.p≠s.l) (h2:s.p≠s.q) (hr:wy.ownsRow B s.T s.sz v' (n+1) (s.xs++s.new)):SideP B n w0 s (upd L s.p) (updX X s.p v') wy:=by
 unfold SideP
 rw[upd_same,updX_same,upd_other L s.p _ (Ne.symm h2),updX_other X s.p _ _ (Ne.symm h2)]
 exact⟨fun _ e=>(nomatch e),fun e=>(nomatch e),fun _=>hr,fun e=>absurd (hp.symm.trans (h.2.2.2 e).1) (by decide)⟩
theorem side_asg (h:SideP B n w0 s L X wx) (hp:L s.p=true) (h1:s.q≠s.l) (h2:s.q≠s.p):SideP B n w0 s (upd L s.q) (updX X s.q (X s.p)) wx:=by
 unfold SideP
 rw[upd_same,updX_same,upd_other L s.q _ (Ne.symm h1),upd_other L s.q _ (Ne.symm h2),updX_other X s.q _ _ (Ne.symm h1),updX_other X s.q _ _ (Ne.symm h2)]
 exact⟨h.1,h.2.1,h.2.2.1,fun _=>⟨hp,rfl⟩⟩
theorem turn_grown {p:Nat→Prop} {wy:World} {r:Option Nat} (h:Turn p w0 wx) (hg:wx.grownBy wy r) (hp:∀ k,r=some k→p k∨w0.heap.size≤k):Turn p w0 wy :=
 ⟨hg.os.trans h.os,hg.tape.trans h.tape,hg.output.trans h.output,Nat.le_trans h.size hg.size,fun j hj hn=>(hg.block j (Nat.lt_of_lt_of_le hj h.size) (fun e=>by rcases hp j e.symm with h2|h2;exact hn h2;omega)).trans (h.block j hj hn)⟩
theorem two_swap (h:TwoP B n w0 s t L X wx):TwoP B n w0 t s L X wx:=⟨⟨h.1.os,h.1.tape,h.1.output,h.1.size,fun k hk hn=>h.1.block k hk (fun e=>hn e.symm)⟩,h.2.2,h.2.1⟩
def sixB (s t:Side):Bool:=decide ([s.l,s.p,s.q,t.l,t.p,t.q].Nodup)
theorem six (h:sixB s t=true):(s.l≠s.p∧s.l≠s.q∧s.p≠s.q)∧(t.l≠t.p∧t.l≠t.q∧t.p≠t.q)∧(s.l≠t.l∧s.l≠t.p∧s.l≠t.q)∧(s.p≠t.l∧s.p≠t.p∧s.p≠t.q)∧(s.q≠t.l∧s.q≠t.p∧s.q≠t.q):=by
 have h2:=of_decide_eq_true h
 simp only[List.nodup_cons,List.mem_cons,List.not_mem_nil,or_false,not_or]at h2
 omega
theorem two_lit (h6:sixB s t=true) (h:TwoP B n w0 s t L X wx) (hl:L s.l=false):TwoP B n w0 s t (upd L s.l) (updX X s.l (.slice (some ⟨wx.heap.size,0,none⟩) 1 1)) (wx.alloc (.cells s.new.toArray s.T)):=by
 obtain⟨⟨a1,a2,a3⟩,⟨b1,b2,b3⟩,⟨c1,c2,c3⟩,_⟩:=six h6
 have hb:=(Below.refl wx.heap.size wx).alloc (Nat.le_refl _) (.cells s.new.toArray s.T)
 refine⟨h.1.trans (.of_below hb),side_lit h.2.1 hl h.1.size a1 a2,side_stable (side_world h.2.2 fun j ⟨cs,hj⟩=>hb.block j (Array.getElem?_eq_some_iff.1 hj).1) c1 c2 c3 _⟩
theorem own_typed {v:Value} {T sz m b:Nat} {xs:List Value} {w:World} (h:w.ownsRow b T sz v m xs) {j:Nat} (hj:v.ownBlock=some j):∃ cs:Array Value,w.heap[j]?=some (Obj.cells cs T (0,0)):=by
 rcases h.2 with⟨rfl,_⟩|⟨g,cap,cur,rfl,h1,h2,rest⟩
 ·cases hj
 ·simp only[Value.ownBlock,Option.some.injEq]at hj
  subst hj
  exact⟨_,h2⟩
theorem two_app {P:Program} (h6:sixB s t=true) (h:TwoP B n w0 s t L X wx) (hT:s.T≠t.T) (hB:B≤w0.heap.size) (hl:L s.l=true) (hp:L s.p=false)
  (ty tz:TypeId) (i:TypeInfo) (z:Value) (bytes:Nat) (ht:P.underlying ty=some (.slice s.T)) (hi:P.info? s.T=some i) (hz:i.zero=some z) (hsize:i.size=s.sz) (hby:i.bytes=bytes) (hzs:z.cells.size=s.sz) (hsz:0<s.sz)
  (hnl:s.new.length=s.sz) (h1:∀ u∈s.new,u.oneCell'=true) (hn:n≤1000000) (hbb:bytes≤1000) :
  ∃ v' w',(Builtin.append_ #[ty,ty] tz #[s.v,X s.l]).run P wx= .ok v' w'∧TwoP B n w0 s t (upd L s.p) (updX X s.p v') w':=by
 obtain⟨⟨a1,a2,a3⟩,⟨b1,b2,b3⟩,⟨c1,c2,c3⟩,⟨d1,d2,d3⟩,_⟩:=six h6
 obtain⟨b,e1,e2,e3⟩:=h.2.1.1 hl hp
 have hown:=h.2.1.2.1 hp
 obtain⟨v',w',hr,h2,h3,h4⟩:=Bw.run_append_at (P:=P) wx B ty tz s.T i z s.sz bytes ht hi hz hsize hby hzs hsz s.v n s.xs hown ⟨b,0,none⟩ 1 1 s.new (by rw[hnl,Nat.one_mul]) (fun j u hu=>by
  have e:((⟨b,0,none⟩:Addr).add j)=⟨b,j,none⟩:=by
   unfold Addr.add
   split<;>simp_all
  rw[e]
  have h5:wx.heap[b]?=some (Obj.cells s.new.toArray s.T (0,0)):=e3
  simp only[World.cell?,h5]
  simpa using hu) h1 (by unfold maxLen;omega) (by have:=Nat.mul_le_mul (show n+1≤1000001 by omega) hbb;omega) (Nat.le_trans hB h.1.size)
 refine⟨v',w',by rw[e1];exact hr,turn_grown h.1 h3 (fun k hk=> .inl (.inl hk)),side_app h.2.1 hp (Ne.symm a1) a3 h2,side_stable (side_world h.2.2 fun j ⟨cs,hj⟩=>h3.block j (Array.getElem?_eq_some_iff.1 hj).1 fun e=>?_) d1 d2 d3 _⟩
 obtain⟨cs2,h5⟩:=own_typed hown e.symm
 rw[hj]at h5
 simp only[Option.some.injEq,Obj.cells.injEq]at h5
 exact hT h5.2.1.symm
theorem two_asg (h6:sixB s t=true) (h:TwoP B n w0 s t L X wx) (hp:L s.p=true):TwoP B n w0 s t (upd L s.q) (updX X s.q (X s.p)) wx:=by
 obtain⟨⟨a1,a2,a3⟩,⟨b1,b2,b3⟩,⟨c1,c2,c3⟩,⟨d1,d2,d3⟩,⟨e1,e2,e3⟩⟩:=six h6
 exact⟨h.1,side_asg h.2.1 hp (Ne.symm a2) (Ne.symm a3),side_stable h.2.2 e1 e2 e3 _⟩
theorem two_still (h:TwoP B n w0 s t L X wx) {i:Nat} (hi: [s.l,s.p,s.q,t.l,t.p,t.q].contains i=false):TwoP B n w0 s t (upd L i) X wx:=by
 simp only[List.contains_eq_mem,List.mem_cons,List.not_mem_nil,or_false,decide_eq_false_iff_not,not_or]at hi
 exact⟨h.1,side_still h.2.1 hi.1 hi.2.1 hi.2.2.1,side_still h.2.2 hi.2.2.2.1 hi.2.2.2.2.1 hi.2.2.2.2.2⟩
theorem two_start (ho:w0.ownsRow B s.T s.sz s.v n s.xs) (ho2:w0.ownsRow B t.T t.sz t.v n t.xs) (X:Nat→Value):TwoP B n w0 s t (fun _=>false) X w0.drew:=by
 have hb:=(Below.refl w0.heap.size w0).drew
 exact⟨.of_below hb,⟨fun e _=>(nomatch e),fun _=>own_same ho (fun j hj=>hb.block j (ho.lt j hj).2),fun e=>(nomatch e),fun e=>(nomatch e)⟩,⟨fun e _=>(nomatch e),fun _=>own_same ho2 (fun j hj=>hb.block j (ho2.lt j hj).2),fun e=>(nomatch e),fun e=>(nomatch e)⟩⟩
theorem two_done (h6:sixB s t=true) (h:TwoP B n w0 s t L X wx) (h1:L s.q=true) (h2:L t.q=true):wx.ownsRow B s.T s.sz (X s.q) (n+1) (s.xs++s.new)∧wx.ownsRow B t.T t.sz (X t.q) (n+1) (t.xs++t.new):=by
 have a1:=h.2.1.2.2.2 h1
 have a2:=h.2.2.2.2.2 h2
 rw[a1.2,a2.2]
 exact⟨h.2.1.2.2.1 a1.1,h.2.2.2.2.1 a2.1⟩
theorem two_block (h:TwoP B n w0 s t L X wx) {m:Nat} (h1:w0.ownsRow B s.T s.sz s.v n s.xs) (h2:w0.ownsRow B t.T t.sz t.v n t.xs) (hs:∀ k,s.v.ownBlock=some k→k<m) (ht:∀ k,t.v.ownBlock=some k→k<m) {j:Nat} (hj:m≤j) (hjw:j<w0.heap.size):wx.heap[j]?=w0.heap[j]? :=
 h.1.block j hjw fun e=>by
  rcases e with e|e
  ·have:=hs j e;omega
  ·have:=ht j e;omega
end
end Go.Proofs.YtgiogemkomgkhaaGreatDoor.Ri
namespace Go.Proofs.YtgiogemkomgkhaaGreatDoor.Ar
open Go.RowKit Go.Shelf Mg Zp YtgiogemkomgkhaaGreatDoor.Nm Df Cr Bk Mt Ri Rf Bw
def rfC (f:Fl):List Value:= [.string f.name,.int .i64 f.t.y,.int .i64 f.t.mo,.int .i64 f.t.d,.int .i64 f.t.h,.int .i64 f.t.mi,.int .i64 f.t.s,.int .i64 (f.data.size:Int)]
theorem rfC_len (f:Fl):(rfC f).length=8:=rfl
theorem name_get {fs:List Fl} {j:Nat} {f:Fl} (h:fs[j]?=some f):(namesF fs)[j]?=some f.name:=by
 unfold namesF
 rw[List.getElem?_map,h]
 rfl
set_option maxHeartbeats 8000000 in
set_option maxRecDepth 100000 in
theorem refchk_calls (A:Option Addr) (c:Nat) (fs:List Fl) (level:Int) (w:World) (hA:Cels w A (fs.flatMap rfC)) (hn:fs.length≤500) (hs:∀ f∈fs,f.name.size≤140737488351232) :
  Calls Tryz.prog 8 #[.slice A fs.length c,.int .i64 level] w fun e w'=>e= .returned (.tuple #[.int .i64 (checkP fs level).1,.int .i64 (checkP fs level).2])∧Below w.heap.size w w':=by
 have HA:=Lib.hid hA
 have HS:=Lib.hid hs
 obtain⟨n,hn0⟩:∃ n,fs.length=n:=⟨_,rfl⟩
 have HN:=Lib.hid hn0
 have HNL:Hid ((namesF fs).length=n):=Lib.hid (by unfold namesF;rw[List.length_map];exact hn0)
 rw[hn0]at hn
 rw[hn0]
 clear hA hs hn0
 by_cases hlev:level<0∨9<level
 ·have HP:Hid (checkP fs level=(0,1)):=Lib.hid (by unfold checkP;rw[if_pos hlev])
  by_cases hl0:level<0
  ·have q1:decide (level<0)=true:=decide_eq_true hl0
   clear hlev
   go_enter Tryz.func8,Tryz.ntmps8
   go_wp2
   go_ret2
   exact⟨by rw[HP.out]<;>rfl,Below.refl _ _⟩
  ·have q1:decide (level<0)=false:=decide_eq_false hl0
   have q2:decide (9<level)=true:=decide_eq_true (by omega)
   clear hlev
   go_enter Tryz.func8,Tryz.ntmps8
   go_wp2
   go_ret2
   exact⟨by rw[HP.out]<;>rfl,Below.refl _ _⟩
 ·have q1:decide (level<0)=false:=decide_eq_false (by omega)
  have q2:decide (9<level)=false:=decide_eq_false (by omega)
  have HP:Hid (checkP fs level=if (allB (namesF fs)).2≠0 then allB (namesF fs) else timeP fs):=Lib.hid (by unfold checkP;rw[if_neg hlev])
  clear hlev
  go_enter Tryz.func8,Tryz.ntmps8
  go_upto_region 4 with fail
  go_loopw [6] (fun vi wr=>∃ i:Nat,i≤n∧vi= .int .i64 i∧Below w.heap.size w wr∧∀ j,j<i→errAt (namesF fs) j=0) (fun vi _=>n - (intOf vi).toNat)
  case atStart=>exact⟨0,Nat.zero_le _,rfl,Below.refl _ _,fun j h=>by omega⟩
  case round =>
   obtain⟨i,hi,rfl,hb,he⟩:=hrel
   have HB:=Lib.hid hb
   have HJ:=Lib.hid he
   clear hb he
   by_cases hlt:i<n
   ·have p1:decide ((i:Int)<(n:Int))=true:=decide_eq_true (by omega)
    have p1':decide (i<n)=true:=decide_eq_true hlt
    have hil:i<fs.length:=by rw[HN.out];exact hlt
    have hin:i<(namesF fs).length:=by rw[HNL.out];exact hlt
    obtain⟨g,o,rfl,hd⟩:=(HA.out.below HB.out).of rfC_len (by decide) i fs[i] (List.getElem?_eq_getElem hil)
    have hsz:=HS.out fs[i] (List.getElem_mem hil)
    have hnm:=name_get (List.getElem?_eq_getElem hil)
    obtain⟨f,hf⟩:∃ f,fs[i]=f:=⟨_,rfl⟩
    rw[hf]at hd hsz hnm
    obtain⟨s,t0,da⟩:=f
    simp only at hsz hnm
    have d0:=hd 0 _ rfl
    simp only[Nat.add_zero]at d0
    have HNM:Hid ((namesF fs)[i]'hin=s):=Lib.hid (by rw[List.getElem?_eq_getElem hin]at hnm;exact Option.some.inj hnm)
    have i0:(0:Int)≤(i:Int):=by omega
    have i1:(i:Int)<(n:Int):=by omega
    clear hd hf hnm
    cases hc:checkB s with
    | false =>
     have er:=err_bad (namesF fs) i hin (by rw[HNM.out];exact hc)
     have hal:=allB_at (namesF fs) i hin (by omega) HJ.out
     rw[er]at hal
     have HR:Hid (checkP fs level=((i:Int),9)):=Lib.hid (by rw[HP.out,hal];rfl)
     clear er hal
     go_wp2_with (go_at_call 17;refine(refcheck_calls _ _ hsz).mono ?_;rintro e w' ⟨rfl,rfl⟩)
     go_ret2
     exact⟨by rw[HR.out]<;>rfl,HB.out⟩
    | true =>
     have HCK:=Lib.hid hc
     go_wp2_with (go_at_call 17;refine(refcheck_calls _ _ hsz).mono ?_;rintro e w' ⟨rfl,rfl⟩)
     clear d0
     go_loopw [7] (fun vk wv=>∃ k:Nat,k≤i∧vk= .int .i64 k∧Below w.heap.size w wv∧∀ j (hj:j<k) (hjl:j<(namesF fs).length),meetB (namesF fs)[j] s=false) (fun vk _=>i - (intOf vk).toNat)
     case atStart=>exact⟨0,Nat.zero_le _,rfl,HB.out,fun j h=>by omega⟩
     case round =>
      obtain⟨k,hk,rfl,hv,hm⟩:=hrel
      have HV:=Lib.hid hv
      have HM:=Lib.hid hm
      clear hv hm
      by_cases hki:k<i
      ·have hkl:k<fs.length:=by omega
       have hkn:k<(namesF fs).length:=by omega
       have qk:decide ((k:Int)<(i:Int))=true:=decide_eq_true (by omega)
       obtain⟨g2,o2,e2,hd⟩:=(HA.out.below HV.out).of rfC_len (by decide) i fs[i] (List.getElem?_eq_getElem hil)
       cases e2
       obtain⟨g2,o2,e2,hx⟩:=(HA.out.below HV.out).of rfC_len (by decide) k fs[k] (List.getElem?_eq_getElem hkl)
       cases e2
       have d0:=hd 0 _ rfl
       have x0:=hx 0 _ rfl
       have hsx:=HS.out fs[k] (List.getElem_mem hkl)
       have hsi:fs[i].name=s:=by
        have h1:=name_get (List.getElem?_eq_getElem hil)
        rw[List.getElem?_eq_getElem hin,HNM.out]at h1
        exact(Option.some.inj h1).symm
       have hnx:=name_get (List.getElem?_eq_getElem hkl)
       obtain⟨x,hxk⟩:∃ x,fs[k].name=x:=⟨_,rfl⟩
       rw[hxk]at x0 hsx hnx
       rw[hsi]at d0
       simp only[Nat.add_zero]at d0 x0
       have HXK:Hid ((namesF fs)[k]'hkn=x):=Lib.hid (by rw[List.getElem?_eq_getElem hkn]at hnx;exact Option.some.inj hnx)
       have n1:(0:Int)≤(k:Int):=by omega
       have n3:(k:Int)<(n:Int):=by omega
       clear hd hx hsi hnx hxk
       cases hm:meetB x s with
       | true =>
        have er:=err_meet (namesF fs) i k hin hki (by rw[HNM.out];exact HCK.out) (by rw[HNM.out,HXK.out];exact hm)
        have hal:=allB_at (namesF fs) i hin (by omega) HJ.out
        rw[er]at hal
        have HR:Hid (checkP fs level=((i:Int),10)):=Lib.hid (by rw[HP.out,hal];rfl)
        clear er hal
        unfold meetB at hm
        cases m1:(x.toList == s.toList) with
        | true =>
         clear hm
         go_wp2
         go_quiet ((first|(go_at_call 18;exact Calls.quiet_of_same (refbelow_same _ _ _ (by assumption) (by assumption)))))
         generalize hW:World.drewN _ _=w4
         have HW:=Lib.hid hW
         clear hW
         go_wp2
         go_ret2
         exact⟨by rw[HR.out]<;>rfl,by rw[← HW.out];exact HV.out.trans ((Go.below_drewN (Below.refl _ _) _).mono HV.out.size)⟩
        | false =>
         cases m2:belowB s x with
         | true =>
          clear hm
          go_wp2
          go_quiet ((first|(go_at_call 18;exact Calls.quiet_of_same (refbelow_same _ _ _ (by assumption) (by assumption)))))
          generalize hW:World.drewN _ _=w4
          have HW:=Lib.hid hW
          clear hW
          go_wp2
          go_ret2
          exact⟨by rw[HR.out]<;>rfl,by rw[← HW.out];exact HV.out.trans ((Go.below_drewN (Below.refl _ _) _).mono HV.out.size)⟩
         | false =>
          have m3:belowB x s=true:=by rw[m1,m2]at hm;simpa using hm
          clear hm
          go_wp2
          go_quiet ((first|(go_at_call 18;exact Calls.quiet_of_same (refbelow_same _ _ _ (by assumption) (by assumption)))))
          generalize hW:World.drewN _ _=w4
          have HW:=Lib.hid hW
          clear hW
          go_wp2
          go_ret2
          exact⟨by rw[HR.out]<;>rfl,by rw[← HW.out];exact HV.out.trans ((Go.below_drewN (Below.refl _ _) _).mono HV.out.size)⟩
       | false =>
        have HMM:=Lib.hid hm
        unfold meetB at hm
        simp only[Bool.or_eq_false_iff]at hm
        obtain⟨⟨m1,m2⟩,m3⟩:=hm
        go_wp2
        go_quiet ((first|(go_at_call 18;exact Calls.quiet_of_same (refbelow_same _ _ _ (by assumption) (by assumption)))))
        generalize hW:World.drewN _ _=w4
        have HW:=Lib.hid hW
        clear hW
        go_wp2
        go_roundw
        case rel =>
         refine⟨k+1,by omega,by go_num,by rw[← HW.out];exact HV.out.trans ((Go.below_drewN (Below.refl _ _) _).mono HV.out.size),fun j hj hjl=>?_⟩
         rcases Nat.lt_or_ge j k with h|h
         ·exact HM.out j h hjl
         ·obtain rfl:j=k:=by omega
          rw[HXK.out]
          exact HMM.out
        case measure=>simp[intOf];omega
      ·have qk:decide ((k:Int)<(i:Int))=false:=decide_eq_false (by omega)
       have er:=Lib.hid (err_fine (namesF fs) i hin (by rw[HNM.out];exact HCK.out) (fun j hj=>by rw[HNM.out];exact HM.out j (by omega) (by omega)))
       go_wp2
       go_roundw
       case rel =>
        refine⟨i+1,by omega,by go_num,HV.out,fun j hj=>?_⟩
        rcases Nat.lt_or_ge j i with h|h
        ·exact HJ.out j h
        ·obtain rfl:j=i:=by omega
         exact er.out
       case measure=>simp[intOf];omega
   ·have p1:decide ((i:Int)<(n:Int))=false:=decide_eq_false (by omega)
    have p1':decide (i<n)=false:=decide_eq_false (by omega)
    have hal:=allB_none (namesF fs) (fun j hj=>HJ.out j (by have:=HNL.out;omega))
    have HP2:Hid (checkP fs level=timeP fs):=Lib.hid (by rw[HP.out,hal];rfl)
    clear hal
    go_upto_region 14 with fail
    clear p1 p1'
    go_loopw [8] (fun vi wr=>∃ j:Nat,j≤n∧vi= .int .i64 j∧(∀ i (h:i<fs.length),i<j→tgood fs[i].t=true)∧Below w.heap.size w wr) (fun vi _=>n - (intOf vi).toNat)
    case atStart=>exact⟨0,Nat.zero_le _,rfl,fun i h h2=>by omega,HB.out⟩
    case round =>
     obtain⟨j,hj,rfl,hgd,hbl⟩:=hrel
     have HGD:=Lib.hid hgd
     have HB3:=Lib.hid hbl
     clear hgd hbl
     by_cases hlt:j<n
     ·have p1:decide ((j:Int)<(n:Int))=true:=decide_eq_true (by omega)
      have p1':decide (j<n)=true:=decide_eq_true hlt
      have hjl:j<fs.length:=by rw[HN.out];exact hlt
      obtain⟨g,o,rfl,hd⟩:=(HA.out.below HB3.out).of rfC_len (by decide) j fs[j] (List.getElem?_eq_getElem hjl)
      have HBT:=Lib.hid (fun (hb:tgood (fs[j]'hjl).t=false)=>badT_some fs j fs[j] (List.getElem?_eq_getElem hjl) hb HGD.out)
      obtain⟨f,hf⟩:∃ f,fs[j]=f:=⟨_,rfl⟩
      have HFJ:=Lib.hid hf
      rw[hf]at hd HBT
      obtain⟨nm,⟨ty,tmo,td,th,tmi,ts⟩,da⟩:=f
      have d0:=hd 0 _ rfl
      have d1:=hd 1 _ rfl
      have d2:=hd 2 _ rfl
      have d3:=hd 3 _ rfl
      have d4:=hd 4 _ rfl
      have d5:=hd 5 _ rfl
      have d6:=hd 6 _ rfl
      have d7:=hd 7 _ rfl
      simp only[Nat.add_zero]at d0
      have i0:(0:Int)≤(j:Int):=by omega
      have i1:(j:Int)<(n:Int):=by omega
      have HTG:=Lib.hid (fun W=>refgood_calls ⟨ty,tmo,td,th,tmi,ts⟩ W)
      simp only[Tm.val]at HTG
      clear hd hf
      go_wp2_with fail
      refine(HTG.out _).mono ?_
      rintro e w4 ⟨rfl,hb4⟩
      have HB4:=Lib.hid (HB3.out.trans (hb4.mono HB3.out.size))
      clear hb4 d0 d1 d2 d3 d4 d5 d6 d7
      cases hg:tgood ⟨ty,tmo,td,th,tmi,ts⟩ with
      | true =>
       go_wp2
       go_roundw
       case rel =>
        refine⟨j+1,by omega,by go_num,fun i h h2=>?_,HB4.out⟩
        rcases Nat.lt_or_ge i j with h3|h3
        ·exact HGD.out i h h3
        ·obtain rfl:i=j:=by omega
         rw[HFJ.out]
         exact hg
       case measure=>simp[intOf];omega
      | false =>
       have HP3:Hid (checkP fs level=((j:Int),13)):=Lib.hid (by rw[HP2.out,timeP,HBT.out hg])
       go_wp2
       go_ret2
       exact⟨by rw[HP3.out]<;>rfl,HB4.out⟩
     ·obtain rfl:j=n:=by omega
      have p1:decide ((j:Int)<(j:Int))=false:=decide_eq_false (by omega)
      have p1':decide (j<j)=false:=decide_eq_false (by omega)
      have HP3:Hid (checkP fs level=(0,0)):=Lib.hid (by rw[HP2.out,timeP,badT_none fs (fun i h=>HGD.out i h (by have:=HN.out;omega))])
      go_wp2
      go_ret2
      exact⟨by rw[HP3.out]<;>rfl,HB3.out⟩
end Go.Proofs.YtgiogemkomgkhaaGreatDoor.Ar
