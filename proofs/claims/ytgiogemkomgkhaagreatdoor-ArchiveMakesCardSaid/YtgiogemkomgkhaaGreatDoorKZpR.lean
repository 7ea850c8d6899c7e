/-
  An archive's end: the reference's End gives the bytes endS.
-/
import Derived.Deep.Quiet
import Derived.Test.YtgiogemkomgkhaaGreatDoorKZpE
import Derived.Deep.RegionHeld3
import Derived.Deep.CutBlock
import Derived.Deep.CutRange
import Derived.Laws.OwnMore
set_option linter.unusedVariables false
set_option linter.unusedSimpArgs false
namespace Go.Proofs.YtgiogemkomgkhaaGreatDoor.Aw
open Go
section
variable {P:Program} {ops:Array Oper} {md:Region.Mode}
def Gives (P:Program) (R:World→World→Prop) (w:World) (v:Value):Result Next→Prop
 | .ok (.value u) w'=>w'=w∧u=v
 | .ok .skip w'=>w'=w∧v=undef
 | .ok (.enter f args) w'=>w'=w∧Calls P f args w (fun e w''=>e= .returned v∧R w w'')
 | _=>False
def Sure (P:Program) (ops:Array Oper) (C:World→Prop) (R:World→World→Prop) (o:Oper) (v:Value) (a:Act):Prop :=
 (Region.wanted o (yielded ops a.tmps)=true∧∀ w,C w→Gives P R w v ((execOp a.eval o).run P w)) ∨
 (Region.wanted o (yielded ops a.tmps)=false∧v=undef)
theorem Gives.quiet {R:World→World→Prop} {E:World→Prop} {w:World} {v:Value} {r:Result Next} (hE:E w) (hR:∀ w'',R w w''→E w'') (h:Gives P R w v r):Oper.quietUpon P E w v r:=by
 cases r with
 | ok n w' =>
  cases n<;>simp only[Gives]at h<;>simp only[Oper.quietUpon]
  all_goals first|exact h|skip
  case enter f args=>exact⟨h.1,h.2.mono fun e w'' ⟨he,hr⟩=>⟨he,hR _ hr⟩⟩
 | halt x w'=>simp only[Gives]at h
theorem Sure.inside {C E:World→Prop} {R:World→World→Prop} {o:Oper} {v:Value} {a:Act} (hEC:∀ w,E w→C w) (hER:∀ w w',E w→R w w'→E w') (h:Sure P ops C R o v a):YieldsIn P ops E o v a:=by
 rcases h with⟨hw,hv⟩|h
 ·exact .inl ⟨hw,fun w he=>(hv w (hEC w he)).quiet he (fun w'' hr=>hER _ _ he hr)⟩
 ·exact .inr h
theorem Sure.of_same {C:World→Prop} {R:World→World→Prop} {o:Oper} {v:Value} {a a':Act} (h:Sure P ops C R o v a) (he:execOp a'.eval o=execOp a.eval o)
  (hw:Region.wanted o (yielded ops a'.tmps)=Region.wanted o (yielded ops a.tmps)):Sure P ops C R o v a':=by
 unfold Sure at *
 rw[he,hw]
 exact h
def Before (P:Program) (md:Region.Mode) (ops:Array Oper) (C:World→Prop) (R:World→World→Prop) (D:World→World→Prop) (V:World→Value) (i0:Nat) (d0:Option Tmp) (Q:Act→Prop):Nat→Array Bool→Act→Prop
 | 0,_,_=>False
 | fuel+1,listed,a=>Region.ready md ops listed≠ []∧∀ i∈Region.ready md ops listed,
  (i=i0→∀ w,C w→wpAnyQ P md ops (D w) Q fuel (listed.setIfInBounds i0 true) (a.put d0 (V w))) ∧
  (i≠i0→∃ o v,ops[i]?=some o∧Sure P ops C R o v a∧Before P md ops C R D V i0 d0 Q fuel (listed.setIfInBounds i true) (a.put o.dst v))
variable {C:World→Prop} {R:World→World→Prop} {D:World→World→Prop} {V:World→Value} {i0:Nat} {o0:Oper} {Q:Act→Prop}
theorem before_first (hDC:∀ w wx,C w→D w wx→C wx) (hDR:∀ w wx wy,D w wx→R wx wy→D w wy) (ho0:ops[i0]?=some o0) (hsel:∀ (j:Nat) (o:Oper) cs b,ops[j]?=some o→o.op≠ .select cs b)
  {i:Nat} {oi:Oper} {v:Value} (hi:ops[i]?=some oi) (hne:i≠i0) :
  ∀ (fuel:Nat) (listed:Array Bool) (a:Act),
   (∀ j oj,ops[j]?=some oj→j≠i→listed.getD j true=false→(∀ e∈oj.after,Region.binds md e=true→e.on≠i)→oi.apart ops oj=true) →
   i∈Region.ready md ops listed→Sure P ops C R oi v a →
   Before P md ops C R D V i0 o0.dst Q fuel (listed.setIfInBounds i true) (a.put oi.dst v)→Before P md ops C R D V i0 o0.dst Q (fuel+1) listed a:=by
 intro fuel
 induction fuel with
 | zero=>intro listed a _ _ _ H;exact H.elim
 | succ fuel ih =>
  intro listed a hfree hr hy H
  refine⟨fun h=>(by rw[h]at hr;cases hr),fun j hj=>?_⟩
  by_cases hji:j=i
  ·subst hji
   exact⟨fun h=>absurd h hne,fun _=>⟨oi,v,hi,hy,H⟩⟩
  ·have h1:=H.2 j (ready_mono hj hji)
   obtain⟨hjun,oj,hoj,hall⟩:=mem_ready.1 hj
   have hnot:∀ e∈oj.after,Region.binds md e=true→e.on≠i:=fun e he hb heq=>by
    have g1:=hall e he hb
    have g0:=(mem_ready.1 hr).1
    rw[heq]at g1
    rcases Nat.lt_or_ge i listed.size with h'|h'
    ·simp[h']at g0 g1;rw[g0]at g1;cases g1
    ·simp[Array.getElem?_eq_none h']at g1
   have hap:=hfree j oj hoj hji hjun hnot
   obtain⟨p1,p2,p3⟩:=Oper.apart_spec hap
   have keep:∀ u,Sure P ops C R oi v (a.put oj.dst u):=fun u =>
    hy.of_same (execOp_put oi (fun cs b=>hsel i oi cs b hi) a oj.dst u p3) (wanted_put oi a oj.dst u p3)
   have hfree':∀ k ok,ops[k]?=some ok→k≠i→(listed.setIfInBounds j true).getD k true=false →
     (∀ e∈ok.after,Region.binds md e=true→e.on≠i)→oi.apart ops ok=true:=fun k ok hk hki hun hno=>by
    refine hfree k ok hk hki ?_ hno
    by_cases hjk:j=k
    ·subst hjk;exact hjun
    ·rw[getD_set_ne true hjk]at hun;exact hun
   refine⟨fun hj0 w hw=>?_,fun hj0=>?_⟩
   ·subst hj0
    obtain rfl:oj=o0:=Option.some.inj (hoj.symm.trans ho0)
    have h2:=h1.1 rfl w hw
    refine wpAnyQ_first hi hsel fuel _ _ hfree' (ready_mono hr (Ne.symm hji)) ((keep (V w)).inside (fun wx h=>hDC w wx hw h) (fun wx wy h hr=>hDR w wx wy h hr)) ?_
    rw[Array.setIfInBounds_comm _ _ hji,Act.put_comm a (V w) v (fun d hd hd2=>p2 d hd2 hd)]
    exact h2
   ·obtain⟨o,u,ho,hs,hB⟩:=h1.2 hj0
    obtain rfl:o=oj:=Option.some.inj (ho.symm.trans hoj)
    have hs':Sure P ops C R o u a:=hs.of_same (execOp_put o (fun cs b=>hsel j o cs b hoj) a oi.dst v p1).symm (wanted_put o a oi.dst v p1).symm
    refine⟨o,u,hoj,hs',ih (listed.setIfInBounds j true) _ hfree' (ready_mono hr (Ne.symm hji)) (keep u) ?_⟩
    rw[Array.setIfInBounds_comm _ _ hji,Act.put_comm a u v (fun d hd hd2=>p2 d hd2 hd)]
    exact hB
theorem before_make {fuel:Nat} {listed:Array Bool} {a:Act} {d0:Option Tmp} (hr:Region.ready md ops listed= [i0])
  (h:∀ w,C w→wpAnyQ P md ops (D w) Q fuel (listed.setIfInBounds i0 true) (a.put d0 (V w))):Before P md ops C R D V i0 d0 Q (fuel+1) listed a :=
 ⟨by rw[hr];simp,fun i hi=>by
  rw[hr,List.mem_singleton]at hi
  exact⟨fun _=>h,fun hne=>absurd hi hne⟩⟩
theorem wpAny_of_before {N:World→World} {Q':Exit→Act→World→Prop} (hCR:∀ w w',C w→R w w'→C w') (ho0:ops[i0]?=some o0)
  (hmake:∀ (a:Act) (w:World),C w→Region.wanted o0 (yielded ops a.tmps)=true∧(execOp a.eval o0).run P w= .ok (.value (V w)) (N w)∧D w (N w))
  (hQ:∀ w wx a,C w→D w wx→Q a→Q' .normal a wx):∀ (fuel:Nat) (listed:Array Bool) (a:Act) (w:World),C w →
  Before P md ops C R D V i0 o0.dst Q fuel listed a→wpAny P md ops Q' fuel listed a w
 | 0,_,_,_,_,h=>h.elim
 | fuel+1,listed,a,w,hw,h=>⟨fun h0=>absurd h0 h.1,fun i hi=>by
   by_cases hi0:i=i0
   ·subst hi0
    obtain⟨m1,m2,m3⟩:=hmake a w hw
    have h2:=(h.2 i hi).1 rfl w hw
    unfold wpOp
    simp only[ho0,m1,if_true]
    refine .inl ?_
    unfold Oper.wp
    rw[m2]
    exact wpAny_of_quiet (C:=D w) (fun a' wx hd hq=>hQ w wx a' hw hd hq) fuel _ _ _ m3 h2
   ·obtain⟨o,v,ho,hs,hB⟩:=(h.2 i hi).2 hi0
    refine wpOp_of_qOp (C:=C) (K:=fun a'=>Before P md ops C R D V i0 o0.dst Q fuel (listed.setIfInBounds i true) a') hw (fun a' w' hw' hb=>wpAny_of_before hCR ho0 hmake hQ fuel _ a' w' hw' hb) ?_
    exact(hs.inside (E:=C) (fun _ h=>h) hCR).qOp ho hB⟩
def idxB (md:Region.Mode) (ops:Array Oper) (stop:Array Bool→Bool):List Nat→Array Bool→Bool
 | [],listed=>stop listed
 | k::l,listed=>(Region.ready md ops listed).contains k && Region.free md ops listed k && idxB md ops stop l (listed.setIfInBounds k true)
def Walk1 (P:Program) (ops:Array Oper) (C:World→Prop) (R:World→World→Prop) (K:Act→Prop):List Oper→Act→Prop
 | [],a=>K a
 | o::os,a=>∃ v,Sure P ops C R o v a∧Walk1 P ops C R K os (a.put o.dst v)
def WalkI (P:Program) (ops:Array Oper) (C:World→Prop) (R:World→World→Prop) (K:Act→Prop):List Nat→Act→Prop
 | [],a=>K a
 | k::l,a=>∃ o v d,ops[k]?=some o∧o.dst=d∧Sure P ops C R o v a∧WalkI P ops C R K l (a.put d v)
theorem before_num (hDC:∀ w wx,C w→D w wx→C wx) (hDR:∀ w wx wy,D w wx→R wx wy→D w wy) (hs:Region.noSelect ops=true) (ho0:ops[i0]?=some o0) {d0:Option Tmp} (hd0:o0.dst=d0) {fuel:Nat} :
  ∀ (l:List Nat) (listed:Array Bool) (a:Act),i0 ∉ l →
  idxB md ops (fun x=>Region.ready md ops x == [i0]) l listed=true →
  WalkI P ops C R (fun a'=>∀ w,C w→wpAnyQ P md ops (D w) Q fuel ((l.foldl (fun x k=>x.setIfInBounds k true) listed).setIfInBounds i0 true) (a'.put d0 (V w))) l a →
  Before P md ops C R D V i0 o0.dst Q (l.length+(fuel+1)) listed a
 | [],listed,a,_,hB,h=>by
  subst hd0
  rw[List.length_nil,Nat.zero_add]
  exact before_make (by simpa[idxB] using hB) h
 | k::l,listed,a,hn,hB,h=>by
  simp only[idxB,Bool.and_eq_true]at hB
  obtain⟨⟨hr,hf⟩,hB'⟩:=hB
  obtain⟨o,v,_,h0,rfl,hv,hK⟩:=h
  have hne:k≠i0:=fun e=>hn (by rw[e];exact List.mem_cons_self)
  have e:(k::l).length+(fuel+1)=l.length+(fuel+1)+1:=by rw[List.length_cons];omega
  rw[e]
  exact before_first hDC hDR ho0 (Region.noSelect_spec hs) h0 hne _ listed a (Region.free_spec h0 hf) (by simpa using hr) hv
   (before_num hDC hDR hs ho0 hd0 l _ _ (fun hm=>hn (List.mem_cons_of_mem _ hm)) hB' hK)
def WalkQ (P:Program) (ops:Array Oper) (E:World→Prop) (Q:Act→Prop):List Nat→Act→Prop
 | [],a=>Q a
 | k::l,a=>∃ o v d,ops[k]?=some o∧o.dst=d∧YieldsIn P ops E o v a∧WalkQ P ops E Q l (a.put d v)
theorem quiet_num {E:World→Prop} (hs:Region.noSelect ops=true):∀ (l:List Nat) (listed:Array Bool) (a:Act),
  idxB md ops (fun x=>(Region.ready md ops x).isEmpty) l listed=true→WalkQ P ops E Q l a→wpAnyQ P md ops E Q l.length listed a
 | [],_,_,hB,h=>⟨by simpa[idxB] using hB,h⟩
 | k::l,listed,a,hB,h=>by
  simp only[idxB,Bool.and_eq_true]at hB
  obtain⟨⟨hr,hf⟩,hB'⟩:=hB
  obtain⟨o,v,_,h0,rfl,hy,hK⟩:=h
  exact wpAnyQ_first h0 (Region.noSelect_spec hs) l.length listed a (Region.free_spec h0 hf) (by simpa using hr) hy (quiet_num hs l _ _ hB' hK)
theorem yin_val {E:World→Prop} {o:Oper} {v:Value} {a:Act} (hw:Region.wanted o (yielded ops a.tmps)=true) (h:∀ w,E w→(execOp a.eval o).run P w= .ok (.value v) w):YieldsIn P ops E o v a :=
 .inl ⟨hw,fun w hE=>by unfold Oper.quietAt;rw[h w hE];exact⟨rfl,rfl⟩⟩
theorem sure_val {o:Oper} {v:Value} {a:Act} (hw:Region.wanted o (yielded ops a.tmps)=true) (h:∀ w,(execOp a.eval o).run P w= .ok (.value v) w):Sure P ops C R o v a :=
 .inl ⟨hw,fun w _=>by rw[h w];exact⟨rfl,rfl⟩⟩
theorem sure_call {o:Oper} {v:Value} {a:Act} {f:FuncId} {args:Array Value} (hw:Region.wanted o (yielded ops a.tmps)=true) (h:∀ w,(execOp a.eval o).run P w= .ok (.enter f args) w)
  (hc:∀ w,C w→Calls P f args w (fun e w''=>e= .returned v∧R w w'')):Sure P ops C R o v a :=
 .inl ⟨hw,fun w hC=>by rw[h w];exact⟨rfl,hc w hC⟩⟩
end
end Go.Proofs.YtgiogemkomgkhaaGreatDoor.Aw
namespace Go.Proofs.YtgiogemkomgkhaaGreatDoor.Zp
open Go.RowKit
def Lies8 (B:Nat) (wx:World):Prop:=wx.heap[B]?=some (.cells (madeCells #[.int .u8 0] 8) 5 (0,0))
theorem Lies8.below {B:Nat} {w w':World} (h:Lies8 B w) (hb:Below w.heap.size w w'):Lies8 B w':=by
 unfold Lies8 at *
 have hlt:B<w.heap.size:=by
  rcases Nat.lt_or_ge B w.heap.size with h1|h1
  ·exact h1
  ·rw[Array.getElem?_eq_none h1]at h
   cases h
 rw[hb.block B hlt]
 exact h
theorem lies8_new (W:World):Lies8 W.heap.size (W.alloc (.cells (madeCells #[.int .u8 0] 8) 5)):=World.alloc_heap_new _ _
set_option maxRecDepth 100000 in
theorem lies8_conv (B:Nat) (W:World) (h:Lies8 B W):(convert 101 9 (.slice (some ⟨B,0,none⟩) 8 8)).run Tryz.prog W= .ok (.string (puI 0 8)) W:=by
 have hcell:∀ i,i<8→W.cell? ⟨B,0+i,none⟩=some (.int .u8 ((putL 0 8).getD i 0)):=fun i hi=>by
  simp only[World.cell?]
  rw[h]
  rw[putL_at _ _ _ hi,Nat.zero_div,Nat.zero_mod]
  have e:(madeCells #[.int .u8 0] 8)[0+i]?=some (.int .u8 0):=by
   rw[← Array.getElem?_toList,toList_madeCells_one,List.getElem?_replicate,if_pos (by omega)]
  simpa using e
 exact run_convert_bytes_arg (P:=Tryz.prog) (w:=W) 101 5 Tryz.underlying101 Tryz.underlying5 B 0 8 8 (putL 0 8) (putL_len _ _) hcell 9 Tryz.underlying9
theorem make8 (W:World):(Instr.makeSlice 101 (.int .i64 8) (.int .i64 8)).run Tryz.prog W= .ok (.slice (some ⟨W.heap.size,0,none⟩) 8 8) (W.alloc (.cells (madeCells #[.int .u8 0] 8) 5)):=by
 obtain⟨i0,hi,hz0,hz1,hz2⟩:=info_parts Tryz.infoByteZ
 have:=run_make (P:=Tryz.prog) W 101 5 i0 (.int .u8 0) Tryz.underlying101 hi hz0 .i64 .i64 8 8 (by omega) (by omega) (by rw[hz2];omega) (by omega)
 simpa[hz1,Value.cells] using this
set_option maxHeartbeats 60000000 in
set_option maxRecDepth 100000 in
theorem refend_calls (c z a:Int) (w:World) (c0:0≤c) (cn:c<18446744073709551616) (z0:0≤z) (zn:z<18446744073709551616) (a0:0≤a) (an:a<18446744073709551616) :
  Calls Tryz.prog 56 #[.int .u64 c,.int .u64 z,.int .u64 a] w fun e w'=>e= .returned (.string (endS c z a))∧Below w.heap.size w w':=by
 obtain⟨R,HR⟩:∃ R,R=endS c z a:=⟨_,rfl⟩
 rw[← HR]
 unfold endS at HR
 have B0:=Lib.hid (Below.refl w.heap.size w)
 by_cases hc:c<4611686018427387904
 ·by_cases hz:z<4611686018427387904
  ·by_cases ha:a<4611686018427387904
   ·have q1:decide (4611686018427387904≤c)=false:=decide_eq_false (by omega)
    have q2:decide (4611686018427387904≤z)=false:=decide_eq_false (by omega)
    have q3:decide (4611686018427387904≤a)=false:=decide_eq_false (by omega)
    rw[if_pos ⟨hc,hz,ha⟩]at HR
    have e8:=puI_8
    have e4:=puI_4
    have e2:=puI_2
    have ev:=verS_size
    have en:=narS_size
    obtain⟨b1,p1⟩:∃ b,decide (65534<c)=b:=⟨_,rfl⟩
    obtain⟨b2,p2⟩:∃ b,decide (4294967294<z)=b:=⟨_,rfl⟩
    obtain⟨b3,p3⟩:∃ b,decide (4294967294<a)=b:=⟨_,rfl⟩
    obtain⟨X,hX⟩:∃ X,X=(if (b1 || b2 || b3) then
   ⟨#[80,75,6,6]⟩++puI 44 8++verS true++verS true++puI 0 8++puI c 8++puI c 8++puI z 8++puI a 8++(⟨#[80,75,6,7]⟩++puI 0 4++puI (a+z) 8++puI 1 4)
  else⟨#[]⟩):=⟨_,rfl⟩
    have HR2:R=X++⟨#[80,75,5,6]⟩++puI 0 4++puI (min c 65535) 2++puI (min c 65535) 2++narS z b2++narS a b3++puI 0 2:=by
     rw[HR,hX,← p1,← p2,← p3]
     simp only[Bool.or_eq_true,decide_eq_true_eq,or_assoc]
    have hXs:X.size≤1000:=by
     rw[hX]
     split
     ·simp[ByteArray.size_append,puI_size,verS_size]
      decide
     ·decide
    have H3:=Lib.hid HR2
    have HX:=Lib.hid hX
    clear HR2 HR hX
    have hmk:=make8
    have hln:=lies8_new
    have hwr:IntKind.u64.wrap (a+z)=a+z:=by rw[IntKind.wrap_u64];omega
    have hcv:=lies8_conv
    go_enter Tryz.func56,Tryz.ntmps56
    go_upto_region 4 with fail
    go_cut [30] from 21 to 30 (fun x wx=>x= .bool (b1 || b2 || b3)∧wx=w)
    case first =>
     cases b1<;>cases b2<;>cases b3
     all_goals
      go_wp2
      go_meet
      exact⟨rfl,rfl⟩
    case rest =>
     obtain⟨rfl,rfl⟩:=hcut
     cases hb:(b1 || b2 || b3) with
     | true =>
      rw[hb,if_pos rfl]at HX
      go_upto_region 5 with fail
      go_cut [7] from 31 to 61 (fun x wx=>x= .string X∧Below wc.heap.size wc wx)
      case first =>
       have hmk:=make8
       have C0:Below wc.heap.size wc wc.drew:=(Below.refl _ _).drew
       clear B0 q1 q2 q3 p1 p2 p3 en ev H3 hln hcv hXs
       refine wp_region_any (by kernel_rfl) ?_
       refine Aw.wpAny_of_before (C:=fun w=>Below wc.heap.size wc w) (R:=fun w w'=>Below w.heap.size w w') (D:=fun w wx=>Below (w.alloc (.cells (madeCells #[.int .u8 0] 8) 5)).heap.size (w.alloc (.cells (madeCells #[.int .u8 0] 8) 5)) wx)
        (V:=fun w=> .slice (some ⟨w.heap.size,0,none⟩) 8 8) (i0:=6) (N:=fun w=>(w.alloc (.cells (madeCells #[.int .u8 0] 8) 5))) (Q:=fun a'=>∀ wx,Below wc.heap.size wc wx→_) (fun w w' h hr=>h.trans (hr.mono h.size)) rfl
        (fun a w hw=>⟨by kernel_rfl,by simp[execOp,Act.eval,hmk,go_sem],Below.refl _ _⟩)
        (fun w wx a hw hd hq=>hq wx ((hw.alloc hw.size _).trans (hd.mono (hw.alloc hw.size _).size))) 32 _ _ _ C0 ?_
       refine Aw.before_num (fuel:=11) (fun w wx hw hd=>(hw.alloc hw.size _).trans (hd.mono (hw.alloc hw.size _).size)) (fun w wx wy hd hr=>hd.trans (hr.mono hd.size)) (by kernel_rfl) rfl (d0:=some 37) rfl [0,1,2,3,4,5,9,10,12,13,15,16,18,19,22,24,25,26,27,29] _ _ (by decide) (by kernel_rfl) ?_
       refine⟨_,_,some 31,rfl,rfl,Aw.sure_call (f:=54) (args:= #[.int .u64 44,.int .i64 8]) (by kernel_rfl) (fun w=>by simp[execOp,Act.eval,Act.put,go_sem,e8,e4,e2,hwr]) (fun w hw=>refput_any 44 8 w (by omega) (by omega) (by omega) (by omega)),?_⟩
       refine⟨_,_,some 32,rfl,rfl,Aw.sure_val (v:= .string (⟨#[80,75,6,6]⟩++puI 44 8)) (by kernel_rfl) (fun w=>by simp[execOp,Act.eval,Act.put,go_sem,e8,e4,e2,hwr]),?_⟩
       refine⟨_,_,some 33,rfl,rfl,Aw.sure_call (f:=51) (args:= #[.int .u64 45]) (by kernel_rfl) (fun w=>by simp[execOp,Act.eval,Act.put,go_sem,e8,e4,e2,hwr]) (fun w hw=>n2_calls 45 w (by omega) (by omega)),?_⟩
       refine⟨_,_,some 34,rfl,rfl,Aw.sure_val (v:= .string (⟨#[80,75,6,6]⟩++puI 44 8++puI 45 2)) (by kernel_rfl) (fun w=>by simp[execOp,Act.eval,Act.put,go_sem,e8,e4,e2,hwr]),?_⟩
       refine⟨_,_,some 35,rfl,rfl,Aw.sure_call (f:=51) (args:= #[.int .u64 45]) (by kernel_rfl) (fun w=>by simp[execOp,Act.eval,Act.put,go_sem,e8,e4,e2,hwr]) (fun w hw=>n2_calls 45 w (by omega) (by omega)),?_⟩
       refine⟨_,_,some 36,rfl,rfl,Aw.sure_val (v:= .string (⟨#[80,75,6,6]⟩++puI 44 8++puI 45 2++puI 45 2)) (by kernel_rfl) (fun w=>by simp[execOp,Act.eval,Act.put,go_sem,e8,e4,e2,hwr]),?_⟩
       refine⟨_,_,some 40,rfl,rfl,Aw.sure_val (v:= .int .u64 c) (by kernel_rfl) (fun w=>by simp[execOp,Act.eval,Act.put,go_sem,e8,e4,e2,hwr]),?_⟩
       refine⟨_,_,some 41,rfl,rfl,Aw.sure_call (f:=54) (args:= #[.int .u64 c,.int .i64 8]) (by kernel_rfl) (fun w=>by simp[execOp,Act.eval,Act.put,go_sem,e8,e4,e2,hwr]) (fun w hw=>refput_any c 8 w (by omega) (by omega) (by omega) (by omega)),?_⟩
       refine⟨_,_,some 43,rfl,rfl,Aw.sure_val (v:= .int .u64 c) (by kernel_rfl) (fun w=>by simp[execOp,Act.eval,Act.put,go_sem,e8,e4,e2,hwr]),?_⟩
       refine⟨_,_,some 44,rfl,rfl,Aw.sure_call (f:=54) (args:= #[.int .u64 c,.int .i64 8]) (by kernel_rfl) (fun w=>by simp[execOp,Act.eval,Act.put,go_sem,e8,e4,e2,hwr]) (fun w hw=>refput_any c 8 w (by omega) (by omega) (by omega) (by omega)),?_⟩
       refine⟨_,_,some 46,rfl,rfl,Aw.sure_val (v:= .int .u64 z) (by kernel_rfl) (fun w=>by simp[execOp,Act.eval,Act.put,go_sem,e8,e4,e2,hwr]),?_⟩
       refine⟨_,_,some 47,rfl,rfl,Aw.sure_call (f:=54) (args:= #[.int .u64 z,.int .i64 8]) (by kernel_rfl) (fun w=>by simp[execOp,Act.eval,Act.put,go_sem,e8,e4,e2,hwr]) (fun w hw=>refput_any z 8 w (by omega) (by omega) (by omega) (by omega)),?_⟩
       refine⟨_,_,some 49,rfl,rfl,Aw.sure_val (v:= .int .u64 a) (by kernel_rfl) (fun w=>by simp[execOp,Act.eval,Act.put,go_sem,e8,e4,e2,hwr]),?_⟩
       refine⟨_,_,some 50,rfl,rfl,Aw.sure_call (f:=54) (args:= #[.int .u64 a,.int .i64 8]) (by kernel_rfl) (fun w=>by simp[execOp,Act.eval,Act.put,go_sem,e8,e4,e2,hwr]) (fun w hw=>refput_any a 8 w (by omega) (by omega) (by omega) (by omega)),?_⟩
       refine⟨_,_,some 53,rfl,rfl,Aw.sure_call (f:=53) (args:= #[.int .u64 0]) (by kernel_rfl) (fun w=>by simp[execOp,Act.eval,Act.put,go_sem,e8,e4,e2,hwr]) (fun w hw=>n4_calls 0 w (by omega) (by omega)),?_⟩
       refine⟨_,_,some 55,rfl,rfl,Aw.sure_val (v:= .int .u64 a) (by kernel_rfl) (fun w=>by simp[execOp,Act.eval,Act.put,go_sem,e8,e4,e2,hwr]),?_⟩
       refine⟨_,_,some 56,rfl,rfl,Aw.sure_val (v:= .int .u64 z) (by kernel_rfl) (fun w=>by simp[execOp,Act.eval,Act.put,go_sem,e8,e4,e2,hwr]),?_⟩
       refine⟨_,_,some 57,rfl,rfl,Aw.sure_val (v:= .int .u64 (a+z)) (by kernel_rfl) (fun w=>by simp[execOp,Act.eval,Act.put,go_sem,e8,e4,e2,hwr]),?_⟩
       refine⟨_,_,some 58,rfl,rfl,Aw.sure_call (f:=54) (args:= #[.int .u64 (a+z),.int .i64 8]) (by kernel_rfl) (fun w=>by simp[execOp,Act.eval,Act.put,go_sem,e8,e4,e2,hwr]) (fun w hw=>refput_any (a+z) 8 w (by omega) (by omega) (by omega) (by omega)),?_⟩
       refine⟨_,_,some 60,rfl,rfl,Aw.sure_call (f:=53) (args:= #[.int .u64 1]) (by kernel_rfl) (fun w=>by simp[execOp,Act.eval,Act.put,go_sem,e8,e4,e2,hwr]) (fun w hw=>n4_calls 1 w (by omega) (by omega)),?_⟩
       intro w0 hw0
       refine Aw.quiet_num (by kernel_rfl) [7,8,11,14,17,20,21,23,28,30,31] _ _ (by kernel_rfl) ?_
       refine⟨_,_,some 38,rfl,rfl,Aw.yin_val (v:= .string (puI 0 8)) (by kernel_rfl) (fun w hd=>by have hx:=lies8_conv _ _ ((lies8_new w0).below hd);simp[execOp,Act.eval,Act.put,go_sem,hx]),?_⟩
       refine⟨_,_,some 39,rfl,rfl,Aw.yin_val (v:= .string (⟨#[80,75,6,6]⟩++puI 44 8++puI 45 2++puI 45 2++puI 0 8)) (by kernel_rfl) (fun w hd=>by simp[execOp,Act.eval,Act.put,go_sem,e8,e4,e2,hwr]),?_⟩
       refine⟨_,_,some 42,rfl,rfl,Aw.yin_val (v:= .string (⟨#[80,75,6,6]⟩++puI 44 8++puI 45 2++puI 45 2++puI 0 8++puI c 8)) (by kernel_rfl) (fun w hd=>by simp[execOp,Act.eval,Act.put,go_sem,e8,e4,e2,hwr]),?_⟩
       refine⟨_,_,some 45,rfl,rfl,Aw.yin_val (v:= .string (⟨#[80,75,6,6]⟩++puI 44 8++puI 45 2++puI 45 2++puI 0 8++puI c 8++puI c 8)) (by kernel_rfl) (fun w hd=>by simp[execOp,Act.eval,Act.put,go_sem,e8,e4,e2,hwr]),?_⟩
       refine⟨_,_,some 48,rfl,rfl,Aw.yin_val (v:= .string (⟨#[80,75,6,6]⟩++puI 44 8++puI 45 2++puI 45 2++puI 0 8++puI c 8++puI c 8++puI z 8)) (by kernel_rfl) (fun w hd=>by simp[execOp,Act.eval,Act.put,go_sem,e8,e4,e2,hwr]),?_⟩
       refine⟨_,_,some 51,rfl,rfl,Aw.yin_val (v:= .string (⟨#[80,75,6,6]⟩++puI 44 8++puI 45 2++puI 45 2++puI 0 8++puI c 8++puI c 8++puI z 8++puI a 8)) (by kernel_rfl) (fun w hd=>by simp[execOp,Act.eval,Act.put,go_sem,e8,e4,e2,hwr]),?_⟩
       refine⟨_,_,some 52,rfl,rfl,Aw.yin_val (v:= .string (⟨#[80,75,6,6]⟩++puI 44 8++puI 45 2++puI 45 2++puI 0 8++puI c 8++puI c 8++puI z 8++puI a 8++⟨#[80,75,6,7]⟩)) (by kernel_rfl) (fun w hd=>by simp[execOp,Act.eval,Act.put,go_sem,e8,e4,e2,hwr]),?_⟩
       refine⟨_,_,some 54,rfl,rfl,Aw.yin_val (v:= .string (⟨#[80,75,6,6]⟩++puI 44 8++puI 45 2++puI 45 2++puI 0 8++puI c 8++puI c 8++puI z 8++puI a 8++⟨#[80,75,6,7]⟩++puI 0 4)) (by kernel_rfl) (fun w hd=>by simp[execOp,Act.eval,Act.put,go_sem,e8,e4,e2,hwr]),?_⟩
       refine⟨_,_,some 59,rfl,rfl,Aw.yin_val (v:= .string (⟨#[80,75,6,6]⟩++puI 44 8++puI 45 2++puI 45 2++puI 0 8++puI c 8++puI c 8++puI z 8++puI a 8++⟨#[80,75,6,7]⟩++puI 0 4++puI (a+z) 8)) (by kernel_rfl) (fun w hd=>by simp[execOp,Act.eval,Act.put,go_sem,e8,e4,e2,hwr]),?_⟩
       refine⟨_,_,some 61,rfl,rfl,Aw.yin_val (v:= .string (⟨#[80,75,6,6]⟩++puI 44 8++puI 45 2++puI 45 2++puI 0 8++puI c 8++puI c 8++puI z 8++puI a 8++⟨#[80,75,6,7]⟩++puI 0 4++puI (a+z) 8++puI 1 4)) (by kernel_rfl) (fun w hd=>by simp[execOp,Act.eval,Act.put,go_sem,e8,e4,e2,hwr]),?_⟩
       refine⟨_,_,some 7,rfl,rfl,Aw.yin_val (v:= .string (⟨#[80,75,6,6]⟩++puI 44 8++puI 45 2++puI 45 2++puI 0 8++puI c 8++puI c 8++puI z 8++puI a 8++⟨#[80,75,6,7]⟩++puI 0 4++puI (a+z) 8++puI 1 4)) (by kernel_rfl) (fun w hd=>by simp[execOp,Act.eval,Act.put,go_sem,e8,e4,e2,hwr]),?_⟩
       intro wx hwx
       have Bx:=Lib.hid hwx
       clear hwx
       simp only[Act.put]
       simp only[List.setIfInBounds_toArray,List.set_cons_succ,List.set_cons_zero]
       go_wp2_with fail
       go_meet
       refine⟨?_,Bx.out⟩
       rw[HX.out]
       simp only[ByteArray.append_assoc]
       rfl
      case rest =>
       obtain⟨rfl,hbw0⟩:=hcut
       have hbw:=Lib.hid hbw0
       have hbb:=hb
       clear hbw0
       have hb':=hbw
       clear hbw
       have ff:puI 4294967295 4=⟨#[255,255,255,255]⟩:=by decide
       cases b1<;>cases b2<;>cases b3
       all_goals first
        | exact absurd hbb (by decide)
        | (have hc1:=p1;simp at hc1
           go_wp2_with (first|(go_at_call 51;refine(n2_calls _ _ (by omega) (by omega)).mono ?_;rintro e w1 ⟨rfl,hb⟩;replace hb':=Lib.hid (hb'.out.trans (hb.mono hb'.out.size));clear hb)|(go_at_call 53;refine(n4_calls _ _ (by omega) (by omega)).mono ?_;rintro e w1 ⟨rfl,hb⟩;replace hb':=Lib.hid (hb'.out.trans (hb.mono hb'.out.size));clear hb))
           go_ret
           refine⟨?_,hb'.out⟩
           rw[H3.out]
           first|(have e:min c 65535=65535:=by omega);rw[e];simp[ByteArray.append_assoc,narS,ff];done|(have e:min c 65535=c:=by omega);rw[e];simp[ByteArray.append_assoc,narS,ff];done)
     | false =>
      rw[hb,if_neg Bool.false_ne_true]at HX
      have hX0:=HX.out
      subst hX0
      have hbw:=Lib.hid (Below.refl wc.heap.size wc)
      have hbb:=hb
      have hb':=hbw
      clear hbw
      have ff:puI 4294967295 4=⟨#[255,255,255,255]⟩:=by decide
      cases b1<;>cases b2<;>cases b3
      all_goals first
       | exact absurd hbb (by decide)
       | (have hc1:=p1;simp at hc1
          go_wp2_with (first|(go_at_call 51;refine(n2_calls _ _ (by omega) (by omega)).mono ?_;rintro e w1 ⟨rfl,hb⟩;replace hb':=Lib.hid (hb'.out.trans (hb.mono hb'.out.size));clear hb)|(go_at_call 53;refine(n4_calls _ _ (by omega) (by omega)).mono ?_;rintro e w1 ⟨rfl,hb⟩;replace hb':=Lib.hid (hb'.out.trans (hb.mono hb'.out.size));clear hb))
          go_ret
          refine⟨?_,hb'.out⟩
          rw[H3.out]
          first|(have e:min c 65535=65535:=by omega);rw[e];simp[ByteArray.append_assoc,narS,ff];done|(have e:min c 65535=c:=by omega);rw[e];simp[ByteArray.append_assoc,narS,ff];done)
   ·have q1:decide (4611686018427387904≤c)=false:=decide_eq_false (by omega)
    have q2:decide (4611686018427387904≤z)=false:=decide_eq_false (by omega)
    have q3:decide (4611686018427387904≤a)=true:=decide_eq_true (by omega)
    rw[if_neg (by omega)]at HR
    clear hc hz ha
    go_enter Tryz.func56,Tryz.ntmps56
    go_wp2
    go_ret
    exact⟨by rw[HR];rfl,B0.out⟩
  ·have q1:decide (4611686018427387904≤c)=false:=decide_eq_false (by omega)
   have q2:decide (4611686018427387904≤z)=true:=decide_eq_true (by omega)
   rw[if_neg (by omega)]at HR
   clear hc hz
   go_enter Tryz.func56,Tryz.ntmps56
   go_wp2
   go_ret
   exact⟨by rw[HR];rfl,B0.out⟩
 ·have q1:decide (4611686018427387904≤c)=true:=decide_eq_true (by omega)
  rw[if_neg (by omega)]at HR
  clear hc
  go_enter Tryz.func56,Tryz.ntmps56
  go_wp2
  go_ret
  exact⟨by rw[HR];rfl,B0.out⟩
end Go.Proofs.YtgiogemkomgkhaaGreatDoor.Zp
