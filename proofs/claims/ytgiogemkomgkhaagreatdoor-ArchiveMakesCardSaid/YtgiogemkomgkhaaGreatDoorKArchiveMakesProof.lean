/-
  The archive is, byte by byte, the headers, the streams of layer 10, and the tail.
-/
import Derived.Test.YtgiogemkomgkhaaGreatDoorRows
import Derived.Test.YtgiogemkomgkhaaGreatDoorCards
import Derived.Test.YtgiogemkomgkhaaGreatDoorTie
import Derived.Test.YtgiogemkomgkhaaGreatDoorKArMakesWalk
import Derived.Test.YtgiogemkomgkhaaGreatDoorKArW
import Derived.WalkKit
import Derived.ProofKit
import Derived.OpenShut
import Derived.ShutString
import Derived.ChangeOld
import Derived.Below
import Derived.SizedLaws
import Derived.Deep.DeepHandedRow
import Derived.Deep.DeepWitnessRowRef
import Derived.Lib.LaidIn
import Derived.Lib.LaidU8T
import Derived.PinnedBridge
import Derived.Lib.LaidTab
import Derived.Lib.LaidU8
set_option linter.unusedVariables false
set_option linter.unusedSimpArgs false
namespace Go.Proofs.YtgiogemkomgkhaaGreatDoor.archiveMakes
open Go.ChangeShapes Go.WideShapes Go.ChangeAt Go.RowKit Go.Shelf
open Go.ChangeMaps (open_string shut_string)
theorem laidOut:laidOutB Tryz.prog=true:=by kernel_rfl
theorem own:ownKnob Tryz.prog.godebug=none:=by kernel_rfl
noncomputable def laidWorld (os:Os):World :=
 let w0:=World.holding Tryz.prog os ⟨#[],#[],[]⟩
 let put (h:Array Obj) (g:Nat) (cs:Array Value):Array Obj:=h.modify g fun
  | .cells _ t frozen=> .cells cs t frozen
  | o=>o
 { w0 with heap:=(put (put (put (put w0.heap 2 (Mt.depT.map fun z=>Value.int .i64 (z:Nat)).toArray) 1 ((List.range 16).flatMap fun i=> [Value.int .u8 (Lib.accLo i),Value.int .u8 (Lib.accHi i)]).toArray) 4 (Bk.ordT.map fun z=>Value.int .i64 (z:Nat)).toArray) 0 (Lib.firstTab.map fun z=>Value.int .u8 z).toArray) }
theorem laid_met (os:Os) (args:Array Value):laidMet Tryz.prog Rows.archiveMakesRow.laid ((laidWorld os).forCall (fun _ _=>0) ⟨#[],args,[]⟩).memory :=
 (LaidIn.of_run (l:=Rows.archiveMakesRow.laid) [2,1,4,0] 8 (by kernel_rfl) (by kernel_rfl) (by kernel_rfl) (by kernel_rfl)).met
theorem accept_eq:(Rows.laid_unicode_utf8_acceptRanges:DataW Unit)=Lib.acceptData:=by kernel_rfl
theorem tabs_of {W:World} (hL:laidMetH Tryz.prog Rows.archiveMakesRow.laid W):Lib.Utf8Tabs 0 1 W:=by
 have h3:=Lib.laidMet.reads hL (.tail _ (.tail _ (.tail _ (.head _))))
 have h4:=Lib.laidMet.reads hL (.tail _ (.head _))
 rw[show Rows.laid_unicode_utf8_first=Lib.firstData from Pinned.utf8First_eq]at h3
 rw[accept_eq]at h4
 exact utf8Tabs_of_readsT (U8Types.of196 Tryz.laysValid) ⟨by kernel_rfl,by kernel_rfl,by kernel_rfl,by kernel_rfl,by kernel_rfl,by kernel_rfl,by kernel_rfl⟩ h3 h4
theorem dept_of {W:World} (hL:laidMetH Tryz.prog Rows.archiveMakesRow.laid W):Mt.DepT W:=by
 obtain⟨g,t,cs,fuel,p,hg,hty,hvar,hd⟩:=Lib.laidMet.reads hL (.head _)
 obtain rfl:=Option.some.inj ((show Tryz.prog.globalNamed "lighter/match.depths" = some 2 by kernel_rfl).symm.trans hg)
 obtain rfl:=Option.some.inj ((show(Tryz.prog.globals[2]?).map (·.type)=some 154 by kernel_rfl).symm.trans hty)
 have hcs:=Lib.cells_of_tab (k:= .i64) (zs:=Mt.depT.map fun (z:Nat)=>(z:Int)) Tryz.underlying154 Tryz.underlying3 (by kernel_rfl) (by kernel_rfl) hd
 have hc:∀ i,i<10→W.cell? ⟨2,i,none⟩=some (.int .i64 (Mt.depT.getD i 0:Nat)):=fun i hi=>by
  rw[World.var?_cell hg hvar i,← Array.getElem?_toList,hcs,List.map_map,List.getElem?_map]
  have hl:i<Mt.depT.length:=hi
  rw[List.getElem?_eq_getElem hl,List.getD_eq_getElem?_getD,List.getElem?_eq_getElem hl]
  rfl
 have h0:=hc 0 (by decide)
 cases hh:W.heap[2]? with
 | none=>simp[World.cell?,hh]at h0
 | some ob =>
  cases ob with
  | cells cs2 t2 fr2=>exact⟨cs2,t2,fr2,hh,fun i hi=>by have:=hc i hi;simpa[World.cell?,hh] using this⟩
  | _=>simp[World.cell?,hh]at h0
theorem ordt_of {W:World} (hL:laidMetH Tryz.prog Rows.archiveMakesRow.laid W):Bk.OrdT W:=by
 obtain⟨g,t,cs,fuel,p,hg,hty,hvar,hd⟩:=Lib.laidMet.reads hL (.tail _ (.tail _ (.head _)))
 obtain rfl:=Option.some.inj ((show Tryz.prog.globalNamed "lighter/block.order" = some 4 by kernel_rfl).symm.trans hg)
 obtain rfl:=Option.some.inj ((show(Tryz.prog.globals[4]?).map (·.type)=some 198 by kernel_rfl).symm.trans hty)
 have hcs:=Lib.cells_of_tab (k:= .i64) (zs:=Bk.ordT.map fun (z:Nat)=>(z:Int)) Tryz.underlying198 Tryz.underlying3 (by kernel_rfl) (by kernel_rfl) hd
 have hc:∀ i,i<19→W.cell? ⟨4,i,none⟩=some (.int .i64 (Bk.ordT.getD i 0:Nat)):=fun i hi=>by
  rw[World.var?_cell hg hvar i,← Array.getElem?_toList,hcs,List.map_map,List.getElem?_map]
  have hl:i<Bk.ordT.length:=hi
  rw[List.getElem?_eq_getElem hl,List.getD_eq_getElem?_getD,List.getElem?_eq_getElem hl]
  rfl
 have h0:=hc 0 (by decide)
 cases hh:W.heap[4]? with
 | none=>simp[World.cell?,hh]at h0
 | some ob =>
  cases ob with
  | cells cs2 t2 fr2=>exact⟨cs2,t2,fr2,hh,fun i hi=>by have:=hc i hi;simpa[World.cell?,hh] using this⟩
  | _=>simp[World.cell?,hh]at h0
theorem witness_row (os:Os) {H:Type} (enc:TypeId×Value→H) :
  (OpenSpec.ofChange Rows.archiveMakesSpec).preRow enc Tryz.prog Tryz.f5 Rows.archiveMakesRow.domain false Rows.archiveMakesRow.laid ((laidWorld os).forCall (fun _ _=>0) ⟨#[],#[.slice none 0 0,.int .i64 0],[]⟩).memory #[.slice none 0 0,.int .i64 0]:=by
 have hw:(DataW.whole enc Tryz.prog ((laidWorld os).forCall (fun _ _=>0) ⟨#[],#[.slice none 0 0,.int .i64 0],[]⟩).memory Tryz.f5.params.toList (OpenSpec.ofChange Rows.archiveMakesSpec).vars false (#[.slice none 0 0,.int .i64 0]:Array Value).toList 8).map (fun x=>(x.1,x.2.1)) =
   some ([.nil,.lit (.int .i64 0)],[]):=by kernel_rfl
 obtain⟨⟨x1,x2,x3⟩,hx,hx1⟩:=Option.map_eq_some_iff.1 hw
 simp only[Prod.mk.injEq]at hx1
 obtain⟨rfl,rfl⟩:=hx1
 exact OpenSpec.preRow_of_cond 8 hx (by kernel_rfl) (fun k hk=>by cases hk) (by kernel_rfl) (laid_met os _)
set_option maxRecDepth 100000 in
set_option maxHeartbeats 2000000 in
theorem lifted (os:Os) (started:os.Started) (H:Type) (enc:TypeId×Value→H) (F:Stop.Interp) :
  ReturnsInHanded {} Tryz.checked os 5 .any ((OpenSpec.ofChange Rows.archiveMakesSpec).preRow enc Tryz.prog Tryz.f5 Rows.archiveMakesRow.domain false Rows.archiveMakesRow.laid) (((OpenSpec.ofChange Rows.archiveMakesSpec).at F).post enc Tryz.prog Tryz.f5 false true false false):=by
 refine returnsInHanded_of_row (C:=Tryz.checked) (s:=(OpenSpec.ofChange Rows.archiveMakesSpec)) own started (by kernel_rfl) Tryz.func5
  (witness_row_atRef (enc:=enc) (C:=Tryz.checked) false (laidWorld os) #[.slice none 0 0,.int .i64 0] rfl (by kernel_rfl) (by kernel_rfl) (by kernel_rfl) (witness_row os enc)) ?_
 intro W base args ds gs before hval0 hW _ hcond hsz0 hL _ _
 have hsz:(DataW.weightsEach Tryz.prog (Tryz.f5.params.toList++Rows.archiveMakesSpec.plain.varTypes Tryz.prog) (ds++gs)).all (· ≤reachBytes)=true:=hsz0
 have hval:∀ (j:Nat) t v,Tryz.f5.params[j]?=some t→args[j]?=some v→Value.okWide Tryz.prog W .any base t v:=hval0
 have hW':=hW
 obtain⟨p,q,hA0,hV0,rfl,_,_⟩:=hW
 have hA:DataW.TrodAll enc Tryz.prog W 0 (fun _=>true) true Tryz.f5.params.toList args.toList ds p:=hA0
 rw[Tryz.params5]at hA hval hsz
 obtain⟨v0,vs0,d0,ds0,p0,q0,hargs,rfl,rfl,h0,r0⟩:=trodAll_cons hA
 obtain⟨v1,vs1,d1,ds1,p1,q1,rfl,rfl,rfl,h1,r1⟩:=trodAll_cons r0
 obtain⟨rfl,rfl,rfl⟩:=trodAll_nil r1
 obtain rfl:args= #[v0,v1]:=by cases args;simp_all
 obtain⟨rfl,rfl⟩:=trodVars_none hV0
 obtain⟨s0,l0,c0,rfl⟩:=okWide_slice Tryz.underlying22 (hval 0 22 v0 rfl rfl)
 have hlt0:∀ x∈p0,x.block<W.heap.size:=fun x hx=>by simpa using hW'.lt x (by simp[hx])
 obtain⟨a1,rfl,rfl,rfl,w1⟩:=open_int Tryz.underlying3 (hval 1 3 v1 rfl rfl) h1
 obtain⟨x0,w0⟩:=Fr.raws_open h0 hsz (j:=0) rfl rfl
 clear hA0 hV0 hval0 hsz0
 have htab:=tabs_of hL
 have hordt:=ordt_of hL
 have hdept:=dept_of hL
 refine(Ar.armakes_any s0 l0 c0 x0 a1 W w0 w1 htab hordt hdept).mono ?_
 rintro e W' ⟨rfl,bel⟩
 exact⟨_,rfl,_,_,_,[],_,[],hW',trodAll_mk1 (shut_bool Tryz.underlying4 _),(trodAll_cons_mk (Below.trod laidOut (by kernel_rfl) (of_decide_eq_true (by kernel_rfl)) h0 bel hlt0) (trodAll_cons_mk (shut_int Tryz.underlying3 w1) trodAll_mk0)),rfl,bel.frame _,fun h=>by cases h⟩
theorem over:Rows.archiveMakesRow.holds Tryz.pinned (OpenSpec.ofChange Rows.archiveMakesSpec) :=
 OpenClaim.holds_of_cond 5 Tryz.f5 rfl rfl rfl rfl rfl rfl rfl ⟨rfl,rfl,rfl,rfl,rfl⟩ rfl rfl rfl rfl rfl (by kernel_rfl) Tryz.func5 (by kernel_rfl)
  (of_decide_eq_true (by kernel_rfl)) (by unfold Func.isWrapper;first|(rw[if_pos (by decide +kernel)];kernel_rfl)|(rw[if_neg (by decide +kernel)];exact⟨rfl,rfl⟩))
  (fun os started H enc _ F=>by rw[OpenClaim.pre_eq_preRow];exact lifted os started H enc F)
theorem plain (f:FuncId) (fn:Func) (hf:Tryz.pinned.checked.prog.funcNamed Rows.archiveMakesRow.func=some f) (hfn:Tryz.pinned.checked.prog.funcs[f]?=some fn) :
  false=Tryz.pinned.checked.prog.looks []∧∀ (j:Nat) t,fn.params[j]?=some t→Tryz.pinned.checked.prog.wantsStandIn t=false:=by
 obtain rfl:f=5:=Option.some.inj ((show Tryz.prog.funcNamed Rows.archiveMakesRow.func=some 5 by kernel_rfl).symm.trans hf) |>.symm
 obtain rfl:fn=Tryz.f5:=(Option.some.inj (Tryz.func5.symm.trans hfn)).symm
 refine⟨by kernel_rfl,fun j t ht=>?_⟩
 rw[Tryz.params5]at ht
 have hm:=Array.mem_of_getElem? ht
 have ht':t=22∨t=3:=by simpa using hm
 rcases ht' with rfl|rfl
 ·exact(show Tryz.prog.wantsStandIn 22=false by kernel_rfl)
 ·exact(show Tryz.prog.wantsStandIn 3=false by kernel_rfl)
theorem card:Rows.ArchiveMakesCardSaid :=
 Claim7.holds_tied_plain_at .later [] _ _ _ _ over (fun _ h=>by cases h) (by kernel_rfl) (fun _ h=>by cases h) archiveMakes_row_tie rfl ⟨rfl,rfl⟩ (by kernel_rfl) rfl plain (by kernel_rfl)
end Go.Proofs.YtgiogemkomgkhaaGreatDoor.archiveMakes
namespace Go.Proofs.YtgiogemkomgkhaaGreatDoor
theorem archiveMakes_holds:Rows.ArchiveMakesCardSaid:=archiveMakes.card
#print axioms archiveMakes_holds
end Go.Proofs.YtgiogemkomgkhaaGreatDoor
