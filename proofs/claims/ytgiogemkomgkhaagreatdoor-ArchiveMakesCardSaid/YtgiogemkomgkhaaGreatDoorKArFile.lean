/-
  (*archive.Maker).file: the next file's bytes.
-/
import Derived.Test.YtgiogemkomgkhaaGreatDoorKArA
import Derived.Test.YtgiogemkomgkhaaGreatDoorKReg
set_option linter.unusedVariables false
set_option linter.unusedSimpArgs false
namespace Go.Proofs.YtgiogemkomgkhaaGreatDoor.Ar
open Go.RowKit Go.Shelf Mg Zp YtgiogemkomgkhaaGreatDoor.Nm Df Cr Bk Mt Ri
def FileAt (lo m T level:Nat) (fs:List Fl) (vf:Value) (k at':Nat) (hs:List Hd) (rest:ByteArray) (tail:Bool) (vh:Value) (f:Fl) (w:World) (e:Ending) (w':World):Prop :=
 ∃ vh',e= .returned (.string (fileS level f at'))∧MkAt w' lo m T level fs vf ⟨k+1,at'+(fileS level f at').size,hs ++ [headF level f at'],rest,tail⟩ vh'∧Moved m vh w w'∧∀ g,vh'.ownBlock=some g→vh.ownBlock=some g∨w.heap.size≤g
noncomputable def thd:TypeInfo:=(Tryz.prog.info? 121).getD default
theorem thd_info:Tryz.prog.info? 121=some thd:=by kernel_rfl
theorem thd_zero:thd.zero=some (.agg #[.string ⟨#[]⟩,.int .i64 0,.int .i64 0,.int .i64 0,.int .i64 0,.int .i64 0,.int .i64 0,.int .u64 0,.int .u64 0,.int .u32 0,.int .u64 0,.bool false]):=by kernel_rfl
theorem thd_size:thd.size=12:=by kernel_rfl
theorem thd_bytes:thd.bytes=104:=by kernel_rfl
theorem hdL_one (h:Hd):∀ u∈hdL h,u.oneCell'=true:=by
 intro u hu
 simp only[hdL,List.mem_cons,List.not_mem_nil,or_false]at hu
 rcases hu with rfl|rfl|rfl|rfl|rfl|rfl|rfl|rfl|rfl|rfl|rfl|rfl<;>rfl
theorem cells_new (w:World) (cs:List Value) (T:Nat):∀ (j:Nat) u,cs[j]?=some u→(w.alloc (.cells cs.toArray T)).cell? ((⟨w.heap.size,0,none⟩:Addr).add j)=some u:=fun j u hu=>by
 have h:=(Blk.new w cs.toArray T).cell j
 have e:((⟨w.heap.size,0,none⟩:Addr).add j)=⟨w.heap.size,j,none⟩:=by
  unfold Addr.add
  split<;>simp_all
 rw[e,h]
 simpa using hu
set_option maxHeartbeats 8000000 in
set_option maxRecDepth 100000 in
theorem file_calls (lo m T level:Nat) (fs:List Fl) (vf:Value) (k at':Nat) (hs:List Hd) (rest:ByteArray) (tail:Bool) (vh:Value) (w:World) (hM:MkAt w lo m T level fs vf ⟨k,at',hs,rest,tail⟩ vh) (nm da:ByteArray) (ty tmo td th tmi ts:Int) (hk:fs[k]?=some ⟨nm,⟨ty,tmo,td,th,tmi,ts⟩,da⟩) (hG:Globs lo w) (hl:level≤9) (hat:at'≤1000000000) (hok:Fl.ok ⟨nm,⟨ty,tmo,td,th,tmi,ts⟩,da⟩) (hhs:hs.length≤1000000) (hfl:fs.length≤1000000) (hda:da.size≤16384) :
  Calls Tryz.prog 37 #[.pointer (some ⟨m,0,none⟩)] w fun e w'=>FileAt lo m T level fs vf k at' hs rest tail vh ⟨nm,⟨ty,tmo,td,th,tmi,ts⟩,da⟩ w e w':=by
 have hkl:k<fs.length:=(List.getElem?_eq_some_iff.1 hk).1
 obtain⟨A,c,rfl,hcel,hA⟩:=hM.fs
 obtain⟨g,o,rfl,hc⟩:=hcel.of flC_len (by decide) k _ hk
 have hgm:=hA g o rfl
 have HM:=Lib.hid hM
 have cm0:=hM.blk.cell 0
 have cm3:=hM.blk.cell 3
 have d0:=hc 0 _ rfl
 have d1:=hc 1 _ rfl
 have d2:=hc 2 _ rfl
 have d3:=hc 3 _ rfl
 have d4:=hc 4 _ rfl
 have d5:=hc 5 _ rfl
 have d6:=hc 6 _ rfl
 have d7:=hc 7 _ rfl
 simp only[Nat.add_zero]at d0
 have hmw:=hM.blk.lt
 have KM:=Lib.hid hM.blk
 obtain⟨n,hn⟩:∃ n,fs.length=n:=⟨_,rfl⟩
 have HN:=Lib.hid hn
 rw[hn]at cm0 hkl hfl KM
 obtain⟨b,hb⟩:∃ b,da.toList.isEmpty=b:=⟨_,rfl⟩
 have i0:(0:Int)≤(k:Int):=by omega
 have i1:(k:Int)<(n:Int):=by omega
 have HG:=Lib.hid hG
 clear hM hk hcel hA hc hG hn
 go_enter Tryz.func37,Tryz.ntmps37
 go_upto_region 1 with fail
 obtain⟨U,f,hU,hf⟩:=worlds (fun L wx=>makeG w #[.string ⟨#[]⟩,.int .i64 0,.int .i64 0,.int .i64 0,.int .i64 0,.int .i64 0,.int .i64 0,.string ⟨#[]⟩] #[.string nm,.int .i64 ty,.int .i64 tmo,.int .i64 td,.int .i64 th,.int .i64 tmi,.int .i64 ts,.string da] 42 (L 10) (L 11) wx)
 have hfb:∀ u,Below w.heap.size w (f u):=fun u=>by obtain⟨L,h⟩:=hf u;exact makeG_below h
 have hne:Nonempty U:=⟨(hU (fun _=>false) w.drew rfl).choose⟩
 have HST:=fun {i}=>@two_stable (makeG w #[.string ⟨#[]⟩,.int .i64 0,.int .i64 0,.int .i64 0,.int .i64 0,.int .i64 0,.int .i64 0,.string ⟨#[]⟩] #[.string nm,.int .i64 ty,.int .i64 tmo,.int .i64 td,.int .i64 th,.int .i64 tmi,.int .i64 ts,.string da] 42) 10 11 i
 have x0:∀ u,(f u).cell? ⟨m,0,none⟩=_:=fun u=>((hfb u).cell (p:=⟨m,0,none⟩) hmw).trans cm0
 have x3:∀ u,(f u).cell? ⟨m,3,none⟩=_:=fun u=>((hfb u).cell (p:=⟨m,3,none⟩) hmw).trans cm3
 have y0:∀ u,(f u).cell? ⟨g,o+k*8,none⟩=_:=fun u=>((hfb u).cell (p:=⟨g,o+k*8,none⟩) (show g<w.heap.size by omega)).trans d0
 have y1:∀ u,(f u).cell? ⟨g,o+k*8+1,none⟩=_:=fun u=>((hfb u).cell (p:=⟨g,o+k*8+1,none⟩) (show g<w.heap.size by omega)).trans d1
 have y2:∀ u,(f u).cell? ⟨g,o+k*8+2,none⟩=_:=fun u=>((hfb u).cell (p:=⟨g,o+k*8+2,none⟩) (show g<w.heap.size by omega)).trans d2
 have y3:∀ u,(f u).cell? ⟨g,o+k*8+3,none⟩=_:=fun u=>((hfb u).cell (p:=⟨g,o+k*8+3,none⟩) (show g<w.heap.size by omega)).trans d3
 have y4:∀ u,(f u).cell? ⟨g,o+k*8+4,none⟩=_:=fun u=>((hfb u).cell (p:=⟨g,o+k*8+4,none⟩) (show g<w.heap.size by omega)).trans d4
 have y5:∀ u,(f u).cell? ⟨g,o+k*8+5,none⟩=_:=fun u=>((hfb u).cell (p:=⟨g,o+k*8+5,none⟩) (show g<w.heap.size by omega)).trans d5
 have y6:∀ u,(f u).cell? ⟨g,o+k*8+6,none⟩=_:=fun u=>((hfb u).cell (p:=⟨g,o+k*8+6,none⟩) (show g<w.heap.size by omega)).trans d6
 have y7:∀ u,(f u).cell? ⟨g,o+k*8+7,none⟩=_:=fun u=>((hfb u).cell (p:=⟨g,o+k*8+7,none⟩) (show g<w.heap.size by omega)).trans d7
 refine wp_region_mix (fun L wx=>makeG w #[.string ⟨#[]⟩,.int .i64 0,.int .i64 0,.int .i64 0,.int .i64 0,.int .i64 0,.int .i64 0,.string ⟨#[]⟩] #[.string nm,.int .i64 ty,.int .i64 tmo,.int .i64 td,.int .i64 th,.int .i64 tmi,.int .i64 ts,.string da] 42 (L 10) (L 11) wx) (by kernel_rfl) (by kernel_rfl) rfl ?_
 repeat (apply mix_read hne (fun L w _ _=>hU L w) (HST (by decide)) rfl (by simp);(intro u K' hK';go_big_quiet_op;exact hK'))
 refine mix_move (.pointer (some ⟨w.heap.size,0,none⟩)) (by simp) (fun L wx hL hP hw K' hK=>?_) ?_
 ·have hL':L 10=false:=hL
  have hw0:makeG w #[.string ⟨#[]⟩,.int .i64 0,.int .i64 0,.int .i64 0,.int .i64 0,.int .i64 0,.int .i64 0,.string ⟨#[]⟩] #[.string nm,.int .i64 ty,.int .i64 tmo,.int .i64 td,.int .i64 th,.int .i64 tmi,.int .i64 ts,.string da] 42 (L 10) (L 11) wx:=hw
  rw[hL']at hw0
  obtain⟨hs,rfl⟩:=makeG_start hw0
  unfold Oper.wp
  go_simp
  refine hK _ ?_
  show makeG w #[.string ⟨#[]⟩,.int .i64 0,.int .i64 0,.int .i64 0,.int .i64 0,.int .i64 0,.int .i64 0,.string ⟨#[]⟩] #[.string nm,.int .i64 ty,.int .i64 tmo,.int .i64 td,.int .i64 th,.int .i64 tmi,.int .i64 ts,.string da] 42 (upd L 10 10) (upd L 10 11) _
  rw[upd_same,upd_other L 10 11 (by decide),hs]
  rfl
 refine mix_move undef (by simp) (fun L wx hL hP hw K' hK=>?_) ?_
 ·have hL':L 11=false:=hL
  have h10:L 10=true:=pre_mem hP 10 (by decide)
  have hw0:makeG w #[.string ⟨#[]⟩,.int .i64 0,.int .i64 0,.int .i64 0,.int .i64 0,.int .i64 0,.int .i64 0,.string ⟨#[]⟩] #[.string nm,.int .i64 ty,.int .i64 tmo,.int .i64 td,.int .i64 th,.int .i64 tmi,.int .i64 ts,.string da] 42 (L 10) (L 11) wx:=hw
  rw[hL',h10]at hw0
  obtain rfl:wx=w.drew.alloc (.cells #[.string ⟨#[]⟩,.int .i64 0,.int .i64 0,.int .i64 0,.int .i64 0,.int .i64 0,.int .i64 0,.string ⟨#[]⟩] 42):=hw0
  unfold Oper.wp
  go_simp
  refine hK _ ?_
  show makeG w #[.string ⟨#[]⟩,.int .i64 0,.int .i64 0,.int .i64 0,.int .i64 0,.int .i64 0,.int .i64 0,.string ⟨#[]⟩] #[.string nm,.int .i64 ty,.int .i64 tmo,.int .i64 td,.int .i64 th,.int .i64 tmi,.int .i64 ts,.string da] 42 (upd L 11 10) (upd L 11 11) _
  rw[upd_same,upd_other L 11 10 (by decide),h10]
  rfl
 refine mix_nil ?_
 intro L wx hall hw
 have hw0:makeG w #[.string ⟨#[]⟩,.int .i64 0,.int .i64 0,.int .i64 0,.int .i64 0,.int .i64 0,.int .i64 0,.string ⟨#[]⟩] #[.string nm,.int .i64 ty,.int .i64 tmo,.int .i64 td,.int .i64 th,.int .i64 tmi,.int .i64 ts,.string da] 42 (L 10) (L 11) wx:=hw
 rw[hall 10 (by decide),hall 11 (by decide)]at hw0
 obtain rfl:wx=w.drew.alloc (.cells #[.string nm,.int .i64 ty,.int .i64 tmo,.int .i64 td,.int .i64 th,.int .i64 tmi,.int .i64 ts,.string da] 42):=hw0
 have KF1:Blk w.heap.size #[.string nm,.int .i64 ty,.int .i64 tmo,.int .i64 td,.int .i64 th,.int .i64 tmi,.int .i64 ts,.string da] 42 (w.drew.alloc (.cells #[.string nm,.int .i64 ty,.int .i64 tmo,.int .i64 td,.int .i64 th,.int .i64 tmi,.int .i64 ts,.string da] 42)):=Blk.new w.drew _ _
 have B1:Below w.heap.size w (w.drew.alloc (.cells #[.string nm,.int .i64 ty,.int .i64 tmo,.int .i64 td,.int .i64 th,.int .i64 tmi,.int .i64 ts,.string da] 42)):=((Below.refl _ _).drew).alloc (Nat.le_refl _) _
 obtain⟨F,hF⟩:∃ F,w.heap.size=F:=⟨_,rfl⟩
 have HFF:=Lib.hid hF
 obtain⟨w1,hw1⟩:∃ w1,w.drew.alloc (.cells #[.string nm,.int .i64 ty,.int .i64 tmo,.int .i64 td,.int .i64 th,.int .i64 tmi,.int .i64 ts,.string da] 42)=w1:=⟨_,rfl⟩
 rw[hF]at KF1 hmw
 rw[hw1]at KF1 B1
 rw[hw1,hF]
 have KM1:=KM.out.below B1
 have c13:=KM1.cell 3
 have f13:=KM1.frozen 3
 clear hw hw1 hF hall hfb hne HST x0 x3 y0 y1 y2 y3 y4 y5 y6 y7 hU hf cm0 cm3 d0 d1 d2 d3 d4 d5 d6 d7
 go_upto_region 3 with fail
 have e31:((k:Int)+1)=((k+1:Nat):Int):=by omega
 rw[e31]
 have KM2:=KM1.setTo (cs':= #[.slice (some ⟨g,o,none⟩) n c,.int .i64 (level:Int),.pointer (some ⟨T,0,none⟩),.int .i64 ((k+1:Nat):Int),.int .i64 (at':Int),vh,.string rest,.bool tail]) 3 (.int .i64 ((k+1:Nat):Int)) rfl
 have KF2:=KF1.other (b:=m) (by omega) 3 (.int .i64 ((k+1:Nat):Int))
 obtain⟨w2,hw2⟩:∃ w2,w1.setCell ⟨m,3,none⟩ (.int .i64 ((k+1:Nat):Int))=w2:=⟨_,rfl⟩
 have HW2:=Lib.hid hw2
 rw[hw2]at KM2 KF2 ⊢
 clear hw2 e31 c13 f13
 obtain⟨U,f,hU,hf⟩:=worlds (fun L wx=>makeG w2 #[.string ⟨#[]⟩,.int .i64 0,.int .i64 0,.int .i64 0,.int .i64 0,.int .i64 0,.int .i64 0,.int .u64 0,.int .u64 0,.int .u32 0,.int .u64 0,.bool false] #[.string nm,.int .i64 ty,.int .i64 tmo,.int .i64 td,.int .i64 th,.int .i64 tmi,.int .i64 ts,.int .u64 0,.int .u64 0,.int .u32 0,.int .u64 (at':Int),.bool b] 121 (L 13) (L 14) wx)
 have hfb:∀ u,Below w2.heap.size w2 (f u):=fun u=>by obtain⟨L,h⟩:=hf u;exact makeG_below h
 have hne:Nonempty U:=⟨(hU (fun _=>false) w2.drew rfl).choose⟩
 have HST:=fun {i}=>@two_stable (makeG w2 #[.string ⟨#[]⟩,.int .i64 0,.int .i64 0,.int .i64 0,.int .i64 0,.int .i64 0,.int .i64 0,.int .u64 0,.int .u64 0,.int .u32 0,.int .u64 0,.bool false] #[.string nm,.int .i64 ty,.int .i64 tmo,.int .i64 td,.int .i64 th,.int .i64 tmi,.int .i64 ts,.int .u64 0,.int .u64 0,.int .u32 0,.int .u64 (at':Int),.bool b] 121) 13 14 i
 have x4:∀ u,(f u).cell? ⟨m,4,none⟩=_:=fun u=>(KM2.below (hfb u)).cell 4
 have y0:∀ u,(f u).cell? ⟨F,0,none⟩=_:=fun u=>(KF2.below (hfb u)).cell 0
 have y1:∀ u,(f u).cell? ⟨F,1,none⟩=_:=fun u=>(KF2.below (hfb u)).cell 1
 have y2:∀ u,(f u).cell? ⟨F,2,none⟩=_:=fun u=>(KF2.below (hfb u)).cell 2
 have y3:∀ u,(f u).cell? ⟨F,3,none⟩=_:=fun u=>(KF2.below (hfb u)).cell 3
 have y4:∀ u,(f u).cell? ⟨F,4,none⟩=_:=fun u=>(KF2.below (hfb u)).cell 4
 have y5:∀ u,(f u).cell? ⟨F,5,none⟩=_:=fun u=>(KF2.below (hfb u)).cell 5
 have y6:∀ u,(f u).cell? ⟨F,6,none⟩=_:=fun u=>(KF2.below (hfb u)).cell 6
 have y7:∀ u,(f u).cell? ⟨F,7,none⟩=_:=fun u=>(KF2.below (hfb u)).cell 7
 refine wp_region_mix (fun L wx=>makeG w2 #[.string ⟨#[]⟩,.int .i64 0,.int .i64 0,.int .i64 0,.int .i64 0,.int .i64 0,.int .i64 0,.int .u64 0,.int .u64 0,.int .u32 0,.int .u64 0,.bool false] #[.string nm,.int .i64 ty,.int .i64 tmo,.int .i64 td,.int .i64 th,.int .i64 tmi,.int .i64 ts,.int .u64 0,.int .u64 0,.int .u32 0,.int .u64 (at':Int),.bool b] 121 (L 13) (L 14) wx) (by kernel_rfl) (by kernel_rfl) rfl ?_
 repeat (apply mix_read hne (fun L w _ _=>hU L w) (HST (by decide)) rfl (by simp);(intro u K' hK';go_big_quiet_op;exact hK'))
 refine mix_move (.pointer (some ⟨w2.heap.size,0,none⟩)) (by simp) (fun L wx hL hP hw K' hK=>?_) ?_
 ·have hL':L 13=false:=hL
  have hw0:makeG w2 #[.string ⟨#[]⟩,.int .i64 0,.int .i64 0,.int .i64 0,.int .i64 0,.int .i64 0,.int .i64 0,.int .u64 0,.int .u64 0,.int .u32 0,.int .u64 0,.bool false] #[.string nm,.int .i64 ty,.int .i64 tmo,.int .i64 td,.int .i64 th,.int .i64 tmi,.int .i64 ts,.int .u64 0,.int .u64 0,.int .u32 0,.int .u64 (at':Int),.bool b] 121 (L 13) (L 14) wx:=hw
  rw[hL']at hw0
  obtain⟨hs,rfl⟩:=makeG_start hw0
  unfold Oper.wp
  go_simp
  refine hK _ ?_
  show makeG w2 #[.string ⟨#[]⟩,.int .i64 0,.int .i64 0,.int .i64 0,.int .i64 0,.int .i64 0,.int .i64 0,.int .u64 0,.int .u64 0,.int .u32 0,.int .u64 0,.bool false] #[.string nm,.int .i64 ty,.int .i64 tmo,.int .i64 td,.int .i64 th,.int .i64 tmi,.int .i64 ts,.int .u64 0,.int .u64 0,.int .u32 0,.int .u64 (at':Int),.bool b] 121 (upd L 13 13) (upd L 13 14) _
  rw[upd_same,upd_other L 13 14 (by decide),hs]
  rfl
 refine mix_move undef (by simp) (fun L wx hL hP hw K' hK=>?_) ?_
 ·have hL':L 14=false:=hL
  have h10:L 13=true:=pre_mem hP 13 (by decide)
  have hw0:makeG w2 #[.string ⟨#[]⟩,.int .i64 0,.int .i64 0,.int .i64 0,.int .i64 0,.int .i64 0,.int .i64 0,.int .u64 0,.int .u64 0,.int .u32 0,.int .u64 0,.bool false] #[.string nm,.int .i64 ty,.int .i64 tmo,.int .i64 td,.int .i64 th,.int .i64 tmi,.int .i64 ts,.int .u64 0,.int .u64 0,.int .u32 0,.int .u64 (at':Int),.bool b] 121 (L 13) (L 14) wx:=hw
  rw[hL',h10]at hw0
  obtain rfl:wx=w2.drew.alloc (.cells #[.string ⟨#[]⟩,.int .i64 0,.int .i64 0,.int .i64 0,.int .i64 0,.int .i64 0,.int .i64 0,.int .u64 0,.int .u64 0,.int .u32 0,.int .u64 0,.bool false] 121):=hw0
  unfold Oper.wp
  go_simp
  refine hK _ ?_
  show makeG w2 #[.string ⟨#[]⟩,.int .i64 0,.int .i64 0,.int .i64 0,.int .i64 0,.int .i64 0,.int .i64 0,.int .u64 0,.int .u64 0,.int .u32 0,.int .u64 0,.bool false] #[.string nm,.int .i64 ty,.int .i64 tmo,.int .i64 td,.int .i64 th,.int .i64 tmi,.int .i64 ts,.int .u64 0,.int .u64 0,.int .u32 0,.int .u64 (at':Int),.bool b] 121 (upd L 14 13) (upd L 14 14) _
  rw[upd_same,upd_other L 14 13 (by decide),h10]
  rfl
 refine mix_nil ?_
 intro L wx hall hw
 have hw0:makeG w2 #[.string ⟨#[]⟩,.int .i64 0,.int .i64 0,.int .i64 0,.int .i64 0,.int .i64 0,.int .i64 0,.int .u64 0,.int .u64 0,.int .u32 0,.int .u64 0,.bool false] #[.string nm,.int .i64 ty,.int .i64 tmo,.int .i64 td,.int .i64 th,.int .i64 tmi,.int .i64 ts,.int .u64 0,.int .u64 0,.int .u32 0,.int .u64 (at':Int),.bool b] 121 (L 13) (L 14) wx:=hw
 rw[hall 13 (by decide),hall 14 (by decide)]at hw0
 obtain rfl:wx=w2.drew.alloc (.cells #[.string nm,.int .i64 ty,.int .i64 tmo,.int .i64 td,.int .i64 th,.int .i64 tmi,.int .i64 ts,.int .u64 0,.int .u64 0,.int .u32 0,.int .u64 (at':Int),.bool b] 121):=hw0
 have KH3:Blk w2.heap.size #[.string nm,.int .i64 ty,.int .i64 tmo,.int .i64 td,.int .i64 th,.int .i64 tmi,.int .i64 ts,.int .u64 0,.int .u64 0,.int .u32 0,.int .u64 (at':Int),.bool b] 121 (w2.drew.alloc (.cells #[.string nm,.int .i64 ty,.int .i64 tmo,.int .i64 td,.int .i64 th,.int .i64 tmi,.int .i64 ts,.int .u64 0,.int .u64 0,.int .u32 0,.int .u64 (at':Int),.bool b] 121)):=Blk.new w2.drew _ _
 have B3:Below w2.heap.size w2 (w2.drew.alloc (.cells #[.string nm,.int .i64 ty,.int .i64 tmo,.int .i64 td,.int .i64 th,.int .i64 tmi,.int .i64 ts,.int .u64 0,.int .u64 0,.int .u32 0,.int .u64 (at':Int),.bool b] 121)):=((Below.refl _ _).drew).alloc (Nat.le_refl _) _
 have KM3:=KM2.below B3
 have KF3:=KF2.below B3
 have hFH:F<w2.heap.size:=KF2.lt
 obtain⟨w3,hw3⟩:∃ w3,w2.drew.alloc (.cells #[.string nm,.int .i64 ty,.int .i64 tmo,.int .i64 td,.int .i64 th,.int .i64 tmi,.int .i64 ts,.int .u64 0,.int .u64 0,.int .u32 0,.int .u64 (at':Int),.bool b] 121)=w3:=⟨_,rfl⟩
 obtain⟨H,hH⟩:∃ H,w2.heap.size=H:=⟨_,rfl⟩
 have HHH:=Lib.hid hH
 rw[hw3]at KH3 KM3 KF3 B3
 rw[hw3,hH]
 rw[hH]at KH3 B3 hFH
 clear hw hH hw3 hall hfb hne HST x4 y0 y1 y2 y3 y4 y5 y6 y7 hU hf
 have h11:=KH3.cell 11
 have hmH:m<H:=by omega
 have B0:Below lo w w3:=by
  have h1:lo≤m:=by omega
  have h2:lo≤w.heap.size:=by have:=HFF.out;omega
  have h3:Below lo w w1:=B1.mono h2
  have h4:Below lo w w2:=by rw[← HW2.out];exact h3.setCell (p:=⟨m,3,none⟩) h1 _
  exact h4.trans (B3.mono (by omega))
 obtain⟨P,hP⟩:∃ P:ByteArray,(if da.size=0 then⟨#[]⟩ else strmS level da)=P:=⟨_,rfl⟩
 obtain⟨cc,hcc⟩:∃ cc:Nat,(if da.size=0 then 0 else crcP (byN da))=cc:=⟨_,rfl⟩
 have HPP:=Lib.hid hP
 have HCC:=Lib.hid hcc
 have hps:P.size≤1000000:=by
  rw[← hP]
  split
  ·decide
  ·exact strm_size level da hda
 have HT3:Hid (TabC w3 T):=Lib.hid (HM.out.tab.heap (by
  have hT:=HM.out.tT
  rw[B3.block T (by omega),← HW2.out,Below.heap_setCell w1 ⟨m,3,none⟩ _ T (by show T≠m;omega)]
  exact B1.block T (by have:=HFF.out;omega)))
 have HM3:Hid (Moved m (.slice none 0 0) w w3):=Lib.hid (by
  have h2:Moved m (.slice none 0 0) w w2:=by rw[← HW2.out];exact((Moved.refl m _ w).next B1).set 3 _
  exact h2.under (by have:=HFF.out;omega) B3)
 have HGG:=Lib.hid HG.out
 have HG0:=Lib.hid (HG.out.below B0)
 have HB0:=Lib.hid B0
 clear hP hcc B0 HG
 have hbo:b=false∨b=true:=by cases b<;>simp
 rcases hbo with hx|hx
 have hsz:da.size≠0:=by
  intro h0
  have:da.toList= []:=by rw[Lib.toList_data];exact List.length_eq_zero_iff.1 (by simpa using h0)
  rw[this,hx]at hb
  cases hb
 have hPS:strmS level da=P:=by rw[← HPP.out,if_neg hsz]
 have hcs:crcP (byN da)=cc:=by rw[← HCC.out,if_neg hsz]
 have HALL:Hid (∀ W,Below w3.heap.size w3 W→Calls Tryz.prog 14 #[.string da,.int .i64 (level:Int)] W fun e w'=>e= .returned (.tuple #[.string P,.int .i64 0])∧Below W.heap.size W w'):=Lib.hid (fun W hW=>(all_calls level da W hl hda (by
  have h:=HG0.out.below (hW.mono (by have:=KM3.lt;omega))
  exact⟨h.here.1,h.here.2.1⟩)).mono (by
   rintro e w' ⟨S,rfl,hS,hb⟩
   exact⟨by rw[strm_eq hS,hPS],hb⟩))
 have HSUM:Hid (∀ W,TabC W T→Calls Tryz.prog 58 #[.pointer (some ⟨T,0,none⟩),.string da] W fun e w'=>e= .returned (.int .u32 (cc:Nat))∧∃ q,w'=W.drewN q):=Lib.hid (fun W hW=>by rw[← hcs];exact sum_calls T da W hW (by omega))
 go_wp2_with fail
 clear hsz hPS hcs h11 hx
 obtain⟨U,f,HA⟩:=above w3.heap.size w3
 have y7:∀ u,(f u).cell? ⟨F,7,none⟩=_:=fun u=>(KF3.below (HA.below u)).cell 7
 have x1:∀ u,(f u).cell? ⟨m,1,none⟩=_:=fun u=>(KM3.below (HA.below u)).cell 1
 have HU:=Lib.hid HA
 have HE:Hid (∀ u,Below w3.heap.size w3 (f u)):=Lib.hid (fun u=>HA.below u)
 obtain⟨u0,hu0⟩:=HA.start
 have hne:Nonempty U:=⟨u0⟩
 clear HA
 rw[hu0]
 clear hu0
 refine wp_region_class (C:=fun w'=>∃ u,w'=f u) (by kernel_rfl) (by kernel_rfl) (HU.out.drew _) ?_
 repeat (go_big_quiet_step (first|(go_at_call 14;refine(HALL.out _ (HE.out _)).mono ?_;rintro e w1 ⟨rfl,hb⟩;exact⟨rfl,HU.out.next (Nat.le_refl _) hb⟩)))
 refine wpQuiet_nil ?_
 rintro wx ⟨u2,rfl⟩
 have b4:=HE.out u2
 generalize f u2=w4 at b4 ⊢
 have HB4:=Lib.hid (HB0.out.trans (b4.mono (by have:=KM3.lt;omega)))
 have KM4:=KM3.below b4
 have KF4:=KF3.below b4
 have KH4:=KH3.below b4
 have HT4:=Lib.hid (HT3.out.below b4)
 have HM4:=Lib.hid (HM3.out.next b4)
 clear b4 y7 x1 hne HU HE KM3 KF3 KH3
 go_upto_region 7 with fail
 obtain⟨U,f,hU,hf⟩:=worlds (fun L wx=>Upd1 H ((fun x:Bool=> #[.string nm,.int .i64 ty,.int .i64 tmo,.int .i64 td,.int .i64 th,.int .i64 tmi,.int .i64 ts,.int .u64 0,.int .u64 0,.int .u32 ((cond x cc 0:Nat):Int),.int .u64 (at':Int),.bool b]) (L 8)) 121 w4 wx)
 have x2:∀ u,(f u).cell? ⟨m,2,none⟩=_:=fun u=>by obtain⟨L,h⟩:=hf u;exact(h.blk KM4 (by omega)).cell 2
 have y7:∀ u,(f u).cell? ⟨F,7,none⟩=_:=fun u=>by obtain⟨L,h⟩:=hf u;exact(h.blk KF4 (by omega)).cell 7
 have hne:Nonempty U:=⟨(hU (fun _=>false) w4 (Upd1.start KH4)).choose⟩
 have HST:=fun {i}=>@one_stable (fun x wx=>Upd1 H #[.string nm,.int .i64 ty,.int .i64 tmo,.int .i64 td,.int .i64 th,.int .i64 tmi,.int .i64 ts,.int .u64 0,.int .u64 0,.int .u32 ((cond x cc 0:Nat):Int),.int .u64 (at':Int),.bool b] 121 w4 wx) 8 i
 refine wp_region_mix (fun L wx=>Upd1 H ((fun x:Bool=> #[.string nm,.int .i64 ty,.int .i64 tmo,.int .i64 td,.int .i64 th,.int .i64 tmi,.int .i64 ts,.int .u64 0,.int .u64 0,.int .u32 ((cond x cc 0:Nat):Int),.int .u64 (at':Int),.bool b]) (L 8)) 121 w4 wx) (by kernel_rfl) (by kernel_rfl) ((Upd1.start KH4).next ((Below.refl _ _).drew)) ?_
 repeat (apply mix_read hne (fun L w _ _=>hU L w) (HST (by decide)) rfl (by simp);(intro u K' hK';go_big_quiet_op;exact hK'))
 apply mix_moved (.int .u32 (cc:Nat)) (by simp)
 ·intro L wx hL hP hw K' hK
  unfold Oper.wp
  go_simp
  refine(HSUM.out _ (HT4.out.heap (hw.1.block T HT4.out.lt (by have:=HM.out.tT;omega)))).mono ?_
  rintro e w' ⟨rfl,q,rfl⟩
  refine hK _ ?_
  show Upd1 H ((fun x:Bool=> #[.string nm,.int .i64 ty,.int .i64 tmo,.int .i64 td,.int .i64 th,.int .i64 tmi,.int .i64 ts,.int .u64 0,.int .u64 0,.int .u32 ((cond x cc 0:Nat):Int),.int .u64 (at':Int),.bool b]) (upd L 6 8)) 121 w4 _
  rw[upd_other L 6 8 (by decide)]
  exact Upd1.next hw (Go.below_drewN (Below.refl _ _) q)
 ·simp[Act.put]
  rfl
 repeat (apply mix_read hne (fun L w _ _=>hU L w) (HST (by decide)) rfl (by simp);(intro u K' hK';go_big_quiet_op;exact hK'))
 apply mix_moved undef (by simp)
 ·intro L wx hL hP hw K' hK
  have hL':L 8=false:=hL
  have hw0:Upd1 H ((fun x:Bool=> #[.string nm,.int .i64 ty,.int .i64 tmo,.int .i64 td,.int .i64 th,.int .i64 tmi,.int .i64 ts,.int .u64 0,.int .u64 0,.int .u32 ((cond x cc 0:Nat):Int),.int .u64 (at':Int),.bool b]) (L 8)) 121 w4 wx:=hw
  rw[hL']at hw0
  have hw1:Upd1 H #[.string nm,.int .i64 ty,.int .i64 tmo,.int .i64 td,.int .i64 th,.int .i64 tmi,.int .i64 ts,.int .u64 0,.int .u64 0,.int .u32 0,.int .u64 (at':Int),.bool b] 121 w4 wx:=hw0
  have c9:=hw1.2.cell 9
  have f9:=hw1.2.frozen 9
  unfold Oper.wp
  go_simp
  refine hK _ ?_
  show Upd1 H ((fun x:Bool=> #[.string nm,.int .i64 ty,.int .i64 tmo,.int .i64 td,.int .i64 th,.int .i64 tmi,.int .i64 ts,.int .u64 0,.int .u64 0,.int .u32 ((cond x cc 0:Nat):Int),.int .u64 (at':Int),.bool b]) (upd L 8 8)) 121 w4 _
  rw[upd_same]
  exact hw1.set 9 _ rfl
 ·simp[Act.put]
  rfl
 refine mix_nil ?_
 intro L wx hall hw
 have hw0:Upd1 H ((fun x:Bool=> #[.string nm,.int .i64 ty,.int .i64 tmo,.int .i64 td,.int .i64 th,.int .i64 tmi,.int .i64 ts,.int .u64 0,.int .u64 0,.int .u32 ((cond x cc 0:Nat):Int),.int .u64 (at':Int),.bool b]) (L 8)) 121 w4 wx:=hw
 rw[hall 8 (by decide)]at hw0
 have hw1:Upd1 H #[.string nm,.int .i64 ty,.int .i64 tmo,.int .i64 td,.int .i64 th,.int .i64 tmi,.int .i64 ts,.int .u64 0,.int .u64 0,.int .u32 (cc:Nat),.int .u64 (at':Int),.bool b] 121 w4 wx:=hw0
 have KM5:=hw1.blk KM4 (by omega)
 have KF5:=hw1.blk KF4 (by omega)
 have KH5:=hw1.2
 have HB5:Hid (Below lo w wx):=Lib.hid (HB4.out.trans (hw1.below (by omega) (by have:=KM4.lt;omega)))
 have HM5:Hid (Moved m (.slice none 0 0) w wx):=Lib.hid (HM4.out.upd (by have:=HFF.out;omega) hw1)
 clear hw hw0 hw1 hall hU hf x2 y7 hne HST HT4 HB4 HM4 KM4 KF4 KH4 HALL HSUM
 generalize wx=w5 at *
 go_upto_region 8 with fail
 rotate_left
 have hsz:da.size=0:=by
  rw[hx]at hb
  have h0:=List.isEmpty_iff.1 hb
  rw[Lib.toList_data]at h0
  have h1:=congrArg List.length h0
  simpa using h1
 have hPe:(⟨#[]⟩:ByteArray)=P:=by rw[← HPP.out,if_pos hsz]
 have hce:0=cc:=by rw[← HCC.out,if_pos hsz]
 go_upto_region 8 with fail
 rw[hPe]
 have KH5:Blk H #[.string nm,.int .i64 ty,.int .i64 tmo,.int .i64 td,.int .i64 th,.int .i64 tmi,.int .i64 ts,.int .u64 0,.int .u64 0,.int .u32 (cc:Nat),.int .u64 (at':Int),.bool b] 121 w3:=by rw[← hce];exact KH3
 have KM5:=KM3
 have KF5:=KF3
 have HB5:=HB0
 have HM5:=HM3
 clear hPe hce h11 hx KM3 KF3 KH3 hsz HT3 HB0 HM3
 generalize w3=w5 at *
 rotate_left
 all_goals
  obtain⟨U,f,hU,hf⟩:=worlds (fun L wx=>Upd1 H ((fun x y:Bool=> #[.string nm,.int .i64 ty,.int .i64 tmo,.int .i64 td,.int .i64 th,.int .i64 tmi,.int .i64 ts,.int .u64 ((cond x P.size 0:Nat):Int),.int .u64 ((cond y da.size 0:Nat):Int),.int .u32 (cc:Nat),.int .u64 (at':Int),.bool b]) (L 8) (L 10)) 121 w5 wx)
  have y7:∀ u,(f u).cell? ⟨F,7,none⟩=_:=fun u=>by obtain⟨L,h⟩:=hf u;exact(h.blk KF5 (by omega)).cell 7
  have hne:Nonempty U:=⟨(hU (fun _=>false) w5 (Upd1.start KH5)).choose⟩
  have HST:=fun {i}=>@two_stable (fun x y wx=>Upd1 H #[.string nm,.int .i64 ty,.int .i64 tmo,.int .i64 td,.int .i64 th,.int .i64 tmi,.int .i64 ts,.int .u64 ((cond x P.size 0:Nat):Int),.int .u64 ((cond y da.size 0:Nat):Int),.int .u32 (cc:Nat),.int .u64 (at':Int),.bool b] 121 w5 wx) 8 10 i
  have ew1:IntKind.u64.wrap (P.size:Int)=(P.size:Int):=by rw[IntKind.wrap_u64];omega
  have ew2:IntKind.u64.wrap (da.size:Int)=(da.size:Int):=by rw[IntKind.wrap_u64];omega
  refine wp_region_mix (fun L wx=>Upd1 H ((fun x y:Bool=> #[.string nm,.int .i64 ty,.int .i64 tmo,.int .i64 td,.int .i64 th,.int .i64 tmi,.int .i64 ts,.int .u64 ((cond x P.size 0:Nat):Int),.int .u64 ((cond y da.size 0:Nat):Int),.int .u32 (cc:Nat),.int .u64 (at':Int),.bool b]) (L 8) (L 10)) 121 w5 wx) (by kernel_rfl) (by kernel_rfl) ((Upd1.start KH5).next ((Below.refl _ _).drew)) ?_
  repeat (apply mix_read hne (fun L w _ _=>hU L w) (HST (by decide)) rfl (by simp);(intro u K' hK';go_big_quiet_op;exact hK'))
  apply mix_moved undef (by simp)
  ·intro L wx hL hP hw K' hK
   have hL':L 8=false:=hL
   have hw0:Upd1 H ((fun x y:Bool=> #[.string nm,.int .i64 ty,.int .i64 tmo,.int .i64 td,.int .i64 th,.int .i64 tmi,.int .i64 ts,.int .u64 ((cond x P.size 0:Nat):Int),.int .u64 ((cond y da.size 0:Nat):Int),.int .u32 (cc:Nat),.int .u64 (at':Int),.bool b]) (L 8) (L 10)) 121 w5 wx:=hw
   obtain⟨y,hy⟩:∃ y,L 10=y:=⟨_,rfl⟩
   rw[hL',hy]at hw0
   have hw1:=Upd1.set hw0 7 (.int .u64 (P.size:Int)) rfl
   have c7:=hw0.2.cell 7
   have f7:=hw0.2.frozen 7
   unfold Oper.wp
   go_simp
   refine hK _ ?_
   show Upd1 H ((fun x y:Bool=> #[.string nm,.int .i64 ty,.int .i64 tmo,.int .i64 td,.int .i64 th,.int .i64 tmi,.int .i64 ts,.int .u64 ((cond x P.size 0:Nat):Int),.int .u64 ((cond y da.size 0:Nat):Int),.int .u32 (cc:Nat),.int .u64 (at':Int),.bool b]) (upd L 8 8) (upd L 8 10)) 121 w5 _
   rw[upd_same,upd_other L 8 10 (by decide),hy]
   exact hw1
  ·simp[Act.put]
   rfl
  repeat (apply mix_read hne (fun L w _ _=>hU L w) (HST (by decide)) rfl (by simp);(intro u K' hK';go_big_quiet_op;exact hK'))
  apply mix_moved undef (by simp)
  ·intro L wx hL hP hw K' hK
   have hL':L 10=false:=hL
   have hw0:Upd1 H ((fun x y:Bool=> #[.string nm,.int .i64 ty,.int .i64 tmo,.int .i64 td,.int .i64 th,.int .i64 tmi,.int .i64 ts,.int .u64 ((cond x P.size 0:Nat):Int),.int .u64 ((cond y da.size 0:Nat):Int),.int .u32 (cc:Nat),.int .u64 (at':Int),.bool b]) (L 8) (L 10)) 121 w5 wx:=hw
   obtain⟨y,hy⟩:∃ y,L 8=y:=⟨_,rfl⟩
   rw[hL',hy]at hw0
   have hw1:=Upd1.set hw0 8 (.int .u64 (da.size:Int)) rfl
   have c8:=hw0.2.cell 8
   have f8:=hw0.2.frozen 8
   unfold Oper.wp
   go_simp
   refine hK _ ?_
   show Upd1 H ((fun x y:Bool=> #[.string nm,.int .i64 ty,.int .i64 tmo,.int .i64 td,.int .i64 th,.int .i64 tmi,.int .i64 ts,.int .u64 ((cond x P.size 0:Nat):Int),.int .u64 ((cond y da.size 0:Nat):Int),.int .u32 (cc:Nat),.int .u64 (at':Int),.bool b]) (upd L 10 8) (upd L 10 10)) 121 w5 _
   rw[upd_same,upd_other L 10 8 (by decide),hy]
   exact hw1
  ·simp[Act.put]
   rfl
  refine mix_nil ?_
  intro L wx hall hw
  have hw0:Upd1 H ((fun x y:Bool=> #[.string nm,.int .i64 ty,.int .i64 tmo,.int .i64 td,.int .i64 th,.int .i64 tmi,.int .i64 ts,.int .u64 ((cond x P.size 0:Nat):Int),.int .u64 ((cond y da.size 0:Nat):Int),.int .u32 (cc:Nat),.int .u64 (at':Int),.bool b]) (L 8) (L 10)) 121 w5 wx:=hw
  rw[hall 8 (by decide),hall 10 (by decide)]at hw0
  have hw1:Upd1 H #[.string nm,.int .i64 ty,.int .i64 tmo,.int .i64 td,.int .i64 th,.int .i64 tmi,.int .i64 ts,.int .u64 (P.size:Int),.int .u64 (da.size:Int),.int .u32 (cc:Nat),.int .u64 (at':Int),.bool b] 121 w5 wx:=hw0
  have KM6:=hw1.blk KM5 (by omega)
  have KH6:=hw1.2
  have HB6:Hid (Below lo w wx):=Lib.hid (HB5.out.trans (hw1.below (by omega) (by have:=KM5.lt;omega)))
  have HM6:Hid (Moved m (.slice none 0 0) w wx):=Lib.hid (HM5.out.upd (by have:=HFF.out;omega) hw1)
  clear hw hw0 hw1 hall hU hf y7 hne HST HB5 HM5 KM5 KF5 KH5 ew1 ew2
  generalize wx=w6 at *
  go_upto_region 9 with fail
  have HR6:Hid (w6.ownsRow (m+1) 121 12 vh hs.length (hs.flatMap hdL)):=Lib.hid (own_same HM.out.row (fun j hj=>HM6.out.block j (HM.out.row.lt j hj).2 (by have h1:=(HM.out.row.lt j hj).1;rintro(h|h);omega;cases h)))
  have hvH:∀ g,vh.ownBlock=some g→g<F:=fun g hg=>by have h1:=(HM.out.row.lt g hg).2;have:=HFF.out;omega
  have hvm:∀ g,vh.ownBlock=some g→m+1≤g:=fun g hg=>(HM.out.row.lt g hg).1
  obtain⟨hd,hhd⟩:∃ hd:Hd,hd=⟨nm,⟨ty,tmo,td,th,tmi,ts⟩,(P.size:Int),(da.size:Int),(cc:Int),(at':Int),b⟩:=⟨_,rfl⟩
  have hdl:(hdL hd).toArray= #[.string nm,.int .i64 ty,.int .i64 tmo,.int .i64 td,.int .i64 th,.int .i64 tmi,.int .i64 ts,.int .u64 (P.size:Int),.int .u64 (da.size:Int),.int .u32 (cc:Nat),.int .u64 (at':Int),.bool b]:=by rw[hhd];rfl
  have hdv:hd.val= .agg #[.string nm,.int .i64 ty,.int .i64 tmo,.int .i64 td,.int .i64 th,.int .i64 tmi,.int .i64 ts,.int .u64 (P.size:Int),.int .u64 (da.size:Int),.int .u32 (cc:Nat),.int .u64 (at':Int),.bool b]:=by rw[hhd];rfl
  have KNEW:=Blk.new w6.drew #[.string nm,.int .i64 ty,.int .i64 tmo,.int .i64 td,.int .i64 th,.int .i64 tmi,.int .i64 ts,.int .u64 (P.size:Int),.int .u64 (da.size:Int),.int .u32 (cc:Nat),.int .u64 (at':Int),.bool b] 121
  obtain⟨W1,hW1⟩:∃ W1,w6.drew.alloc (.cells #[.string nm,.int .i64 ty,.int .i64 tmo,.int .i64 td,.int .i64 th,.int .i64 tmi,.int .i64 ts,.int .u64 (P.size:Int),.int .u64 (da.size:Int),.int .u32 (cc:Nat),.int .u64 (at':Int),.bool b] 121)=W1:=⟨_,rfl⟩
  have hb1:Below w6.heap.size w6 W1:=by rw[← hW1];exact((Below.refl _ _).drew).alloc (Nat.le_refl _) _
  have HR7:=own_below HR6.out hb1
  have hmW1:m+1≤W1.heap.size:=by have:=(KM6.below hb1).lt;omega
  obtain⟨v',W2,hrun,hown2,hgr,hfr⟩:=Bw.run_append_at (P:=Tryz.prog) W1 (m+1) 71 71 121 thd _ 12 104 Tryz.underlying71 thd_info thd_zero thd_size thd_bytes rfl (by decide) vh hs.length (hs.flatMap hdL) HR7 ⟨w6.heap.size,0,none⟩ 1 1 (hdL hd) (by rw[hdL_len]) (by rw[← hW1,← hdl];exact cells_new w6.drew (hdL hd) _) (hdL_one hd) (by unfold maxLen;omega) (by omega) hmW1
  obtain⟨g',c',hv',_,_⟩:=hown2.form (by omega)
  have HV':=Lib.hid hv'
  clear hv'
  have KM7:=KM6.below hb1
  have KH7:=KH6.below hb1
  have KM8:Blk m _ _ W2:=(hgr.block m KM7.lt (fun e=>by have:=hvm m e.symm;omega)).trans KM7
  have KH8:Blk H _ _ W2:=(hgr.block H KH7.lt (fun e=>by have:=hvH H e.symm;omega)).trans KH7
  have KM9:=KM8.setTo (cs':= #[.slice (some ⟨g,o,none⟩) n c,.int .i64 (level:Int),.pointer (some ⟨T,0,none⟩),.int .i64 ((k+1:Nat):Int),.int .i64 (at':Int),v',.string rest,.bool tail]) 5 v' rfl
  have KH9:=KH8.other (b:=m) (by omega) 5 v'
  have HM9:Hid (Moved m vh w (W2.setCell ⟨m,5,none⟩ v')):=Lib.hid (((HM6.out.weak.next hb1).grown hgr).set 5 v')
  have hv'm:v'.ownBlock≠some m:=fun e=>by have:=(hown2.lt m e).1;omega
  have HR9:Hid ((W2.setCell ⟨m,5,none⟩ v').ownsRow (m+1) 121 12 v' (hs.length+1) (hs.flatMap hdL++hdL hd)):=Lib.hid (own_same hown2 (fun j hj=>Below.heap_setCell W2 ⟨m,5,none⟩ v' j (fun e=>hv'm (by have e2:j=m:=e;rw[← e2];exact hj))))
  have HFR:Hid (∀ g,v'.ownBlock=some g→vh.ownBlock=some g∨w.heap.size≤g):=Lib.hid (fun g hg=>by
   rcases hfr g hg with h|h
   ·exact .inl h
   ·exact .inr (by have h1:=HM6.out.size;have h2:=hb1.size;omega))
  obtain⟨U,f,hU,hf⟩:=worlds (fun L wx=>chain3 w6.drew W1 W2 (W2.setCell ⟨m,5,none⟩ v') (L 6) (L 7) (L 10) wx∧(L 7=true→L 4=true))
  have hkh:∀ u,Blk H #[.string nm,.int .i64 ty,.int .i64 tmo,.int .i64 td,.int .i64 th,.int .i64 tmi,.int .i64 ts,.int .u64 (P.size:Int),.int .u64 (da.size:Int),.int .u32 (cc:Nat),.int .u64 (at':Int),.bool b] 121 (f u):=fun u=>by obtain⟨L,h,_⟩:=hf u;exact chain3_all (R:=Blk H #[.string nm,.int .i64 ty,.int .i64 tmo,.int .i64 td,.int .i64 th,.int .i64 tmi,.int .i64 ts,.int .u64 (P.size:Int),.int .u64 (da.size:Int),.int .u32 (cc:Nat),.int .u64 (at':Int),.bool b] 121) KH6.drew KH7 KH8 KH9 h
  have z0:∀ u,(f u).cell? ⟨H,0,none⟩=_:=fun u=>(hkh u).cell 0
  have z1:∀ u,(f u).cell? ⟨H,1,none⟩=_:=fun u=>(hkh u).cell 1
  have z2:∀ u,(f u).cell? ⟨H,2,none⟩=_:=fun u=>(hkh u).cell 2
  have z3:∀ u,(f u).cell? ⟨H,3,none⟩=_:=fun u=>(hkh u).cell 3
  have z4:∀ u,(f u).cell? ⟨H,4,none⟩=_:=fun u=>(hkh u).cell 4
  have z5:∀ u,(f u).cell? ⟨H,5,none⟩=_:=fun u=>(hkh u).cell 5
  have z6:∀ u,(f u).cell? ⟨H,6,none⟩=_:=fun u=>(hkh u).cell 6
  have z7:∀ u,(f u).cell? ⟨H,7,none⟩=_:=fun u=>(hkh u).cell 7
  have z8:∀ u,(f u).cell? ⟨H,8,none⟩=_:=fun u=>(hkh u).cell 8
  have z9:∀ u,(f u).cell? ⟨H,9,none⟩=_:=fun u=>(hkh u).cell 9
  have z10:∀ u,(f u).cell? ⟨H,10,none⟩=_:=fun u=>(hkh u).cell 10
  have z11:∀ u,(f u).cell? ⟨H,11,none⟩=_:=fun u=>(hkh u).cell 11
  have hne:Nonempty U:=⟨(hU (fun _=>false) w6.drew ⟨rfl,fun h=>by cases h⟩).choose⟩
  have HST:∀ {i:Nat},(decide (i=4) || decide (i=6) || decide (i=7) || decide (i=10))=false→∀ (L:Nat→Bool) (wx:World),(chain3 w6.drew W1 W2 (W2.setCell ⟨m,5,none⟩ v') (L 6) (L 7) (L 10) wx∧(L 7=true→L 4=true))→(chain3 w6.drew W1 W2 (W2.setCell ⟨m,5,none⟩ v') (upd L i 6) (upd L i 7) (upd L i 10) wx∧(upd L i 7=true→upd L i 4=true)):=fun {i} hi L wx h=>by
   simp only[Bool.or_eq_false_iff,decide_eq_false_iff_not]at hi
   rw[upd_other L i 6 (by omega),upd_other L i 7 (by omega),upd_other L i 10 (by omega),upd_other L i 4 (by omega)]
   exact h
  clear hkh hfr hgr hown2 hv'm
  refine wp_region_mix (fun L wx=>chain3 w6.drew W1 W2 (W2.setCell ⟨m,5,none⟩ v') (L 6) (L 7) (L 10) wx∧(L 7=true→L 4=true)) (by kernel_rfl) (by kernel_rfl) ⟨rfl,fun h=>by cases h⟩ ?_
  repeat (apply mix_read hne (fun L w _ _=>hU L w) (HST (by decide)) rfl (by simp);(intro u K' hK';go_big_quiet_op;exact hK'))
  apply mix_moved vh (by simp)
  ·intro L wx hL hP hw K' hK
   have hL':L 4=false:=hL
   have hw0:chain3 w6.drew W1 W2 (W2.setCell ⟨m,5,none⟩ v') (L 6) (L 7) (L 10) wx∧(L 7=true→L 4=true):=hw
   have h7:L 7=false:=Bool.eq_false_iff.2 (fun h=>by rw[hw0.2 h]at hL';cases hL')
   have hw1:=hw0.1
   rw[h7]at hw1
   have hwc:wx.cell? ⟨m,5,none⟩=some vh:=by
    cases h6:L 6<;>cases h10:L 10<;>rw[h6,h10]at hw1
    ·exact(show wx=w6.drew from hw1)▸(KM6.drew.cell 5)
    ·exact hw1.elim
    ·exact(show wx=W1 from hw1)▸(KM7.cell 5)
    ·exact hw1.elim
   unfold Oper.wp
   go_simp
   refine hK _ ?_
   show chain3 w6.drew W1 W2 (W2.setCell ⟨m,5,none⟩ v') (upd L 4 6) (upd L 4 7) (upd L 4 10) wx∧(upd L 4 7=true→upd L 4 4=true)
   rw[upd_other L 4 6 (by decide),upd_other L 4 7 (by decide),upd_other L 4 10 (by decide),upd_same]
   exact⟨hw0.1,fun _=>rfl⟩
  ·simp[Act.put]
   rfl
  repeat (apply mix_read hne (fun L w _ _=>hU L w) (HST (by decide)) rfl (by simp);(intro u K' hK';go_big_quiet_op;exact hK'))
  apply mix_moved (.slice (some ⟨w6.heap.size,0,none⟩) 1 1) (by simp)
  ·intro L wx hL hP hw K' hK
   have hL':L 6=false:=hL
   have hw0:chain3 w6.drew W1 W2 (W2.setCell ⟨m,5,none⟩ v') (L 6) (L 7) (L 10) wx∧(L 7=true→L 4=true):=hw
   have hw1:=hw0.1
   rw[hL']at hw1
   have hs:L 7=false∧L 10=false∧wx=w6.drew:=by
    cases h7:L 7<;>cases h10:L 10<;>rw[h7,h10]at hw1
    ·exact⟨rfl,rfl,hw1⟩
    ·exact hw1.elim
    ·exact hw1.elim
    ·exact hw1.elim
   obtain⟨h7,h10,rfl⟩:=hs
   unfold Oper.wp
   go_simp
   refine hK _ ?_
   show chain3 w6.drew W1 W2 (W2.setCell ⟨m,5,none⟩ v') (upd L 6 6) (upd L 6 7) (upd L 6 10) _∧(upd L 6 7=true→upd L 6 4=true)
   rw[upd_other L 6 7 (by decide),upd_other L 6 10 (by decide),upd_other L 6 4 (by decide),upd_same,h7,h10]
   exact⟨rfl,fun h=>by cases h⟩
  ·simp[Act.put]
   rfl
  apply mix_moved v' (by simp)
  ·intro L wx hL hP hw K' hK
   have hL':L 7=false:=hL
   have h6:L 6=true:=pre_mem hP 6 (by decide)
   have h4:L 4=true:=pre_mem hP 4 (by decide)
   have hw0:chain3 w6.drew W1 W2 (W2.setCell ⟨m,5,none⟩ v') (L 6) (L 7) (L 10) wx∧(L 7=true→L 4=true):=hw
   have hw1:=hw0.1
   rw[hL',h6]at hw1
   have hs:L 10=false∧wx=W1:=by
    cases h10:L 10<;>rw[h10]at hw1
    ·exact⟨rfl,hw1⟩
    ·exact hw1.elim
   obtain⟨h10,hwx⟩:=hs
   rw[hwx]
   refine wp_append_run _ _ 71 rfl (by simp[Act.eval]) (by simp[Act.eval]) hrun (hK _ ?_)
   show chain3 w6.drew W1 W2 (W2.setCell ⟨m,5,none⟩ v') (upd L 7 6) (upd L 7 7) (upd L 7 10) _∧(upd L 7 7=true→upd L 7 4=true)
   rw[upd_other L 7 6 (by decide),upd_other L 7 10 (by decide),upd_other L 7 4 (by decide),upd_same,h6,h10,h4]
   exact⟨rfl,fun _=>rfl⟩
  ·simp[Act.put]
   rfl
  repeat (apply mix_read hne (fun L w _ _=>hU L w) (HST (by decide)) rfl (by simp);(intro u K' hK';go_big_quiet_op;exact hK'))
  apply mix_moved undef (by simp)
  ·intro L wx hL hP hw K' hK
   have hL':L 10=false:=hL
   have h7:L 7=true:=pre_mem hP 7 (by decide)
   have hw0:chain3 w6.drew W1 W2 (W2.setCell ⟨m,5,none⟩ v') (L 6) (L 7) (L 10) wx∧(L 7=true→L 4=true):=hw
   have hw1:=hw0.1
   rw[hL',h7]at hw1
   have hs:L 6=true∧wx=W2:=by
    cases h6:L 6<;>rw[h6]at hw1
    ·exact hw1.elim
    ·exact⟨rfl,hw1⟩
   obtain⟨h6,hwx⟩:=hs
   rw[hwx]
   have c5:=KM8.cell 5
   have f5:=KM8.frozen 5
   have hrs:(Instr.storeAt 71 (.pointer (some ⟨m,5,none⟩)) v').run Tryz.prog W2= .ok () (W2.setCell ⟨m,5,none⟩ v'):=by
    rw[HV'.out]
    go_simp
   refine wp_store_run 71 _ _ rfl (by simp[Act.eval]) (by simp[Act.eval]) hrs (hK _ ?_)
   show chain3 w6.drew W1 W2 (W2.setCell ⟨m,5,none⟩ v') (upd L 10 6) (upd L 10 7) (upd L 10 10) _∧(upd L 10 7=true→upd L 10 4=true)
   rw[upd_other L 10 6 (by decide),upd_other L 10 7 (by decide),upd_other L 10 4 (by decide),upd_same,h6,h7]
   exact⟨rfl,fun _=>hw0.2 h7⟩
  ·simp[Act.put]
   rfl
  refine mix_nil ?_
  intro L wx hall hw
  have hw0:chain3 w6.drew W1 W2 (W2.setCell ⟨m,5,none⟩ v') (L 6) (L 7) (L 10) wx∧(L 7=true→L 4=true):=hw
  have hw1:=hw0.1
  rw[hall 6 (by decide),hall 7 (by decide),hall 10 (by decide)]at hw1
  obtain rfl:wx=W2.setCell ⟨m,5,none⟩ v':=hw1
  have hHW:H<(W2.setCell ⟨m,5,none⟩ v').heap.size:=KH9.lt
  generalize W2.setCell ⟨m,5,none⟩ v'=w9 at *
  clear hw hw0 hall hU hf hne HST KM7 KM8 KH7 KH8 KNEW hrun hb1 HR7 HR6 KM6 KH6 z0 z1 z2 z3 z4 z5 z6 z7 z8 z9 z10 z11
  go_upto_region 10 with fail
  obtain⟨hfine,hls,hds⟩:=head_fine level ⟨nm,⟨ty,tmo,td,th,tmi,ts⟩,da⟩ at' hok (by omega)
  have hhe:headF level ⟨nm,⟨ty,tmo,td,th,tmi,ts⟩,da⟩ at'=hd:=by
   rw[hhd]
   unfold headF
   simp only[Hd.mk.injEq,true_and,and_true]
   refine⟨?_,?_,?_⟩
   ·rw[← HPP.out];split<;>rfl
   ·rw[← HCC.out];split<;>rfl
   ·rw[← hb]
    unfold nosB
    rw[Lib.toList_data,Bool.eq_iff_iff,decide_eq_true_eq,List.isEmpty_iff]
    exact⟨fun h=>List.length_eq_zero_iff.1 h,fun h=>List.length_eq_zero_iff.2 h⟩
  have hfs:fileS level ⟨nm,⟨ty,tmo,td,th,tmi,ts⟩,da⟩ at'=locS hd++P++desS hd:=by
   unfold fileS
   rw[hhe,← HPP.out]
  rw[hhe]at hfine hls hds
  have HHE:=Lib.hid hhe
  have HFS:=Lib.hid hfs
  obtain⟨LS,hLS⟩:∃ LS,locS hd=LS:=⟨_,rfl⟩
  obtain⟨DS,hDS⟩:∃ DS,desS hd=DS:=⟨_,rfl⟩
  rw[hLS]at hls
  rw[hDS]at hds
  rw[hLS,hDS]at HFS
  have HBm:Hid (Below lo w w9):=Lib.hid (HM9.out.below (by omega) (fun g hg=>by have:=hvm g hg;omega) (by have:=HFF.out;omega))
  have HGm:=Lib.hid (HG0.out.here)
  have HTT:Hid (∀ W,Below w9.heap.size w9 W→Tabs W):=Lib.hid (fun W hW=>((HGG.out.below HBm.out).below (hW.mono (by have:=KM9.lt;omega))).here.2.2)
  have HL:Hid (∀ W,Below w9.heap.size w9 W→Calls Tryz.prog 59 #[.agg #[.string nm,.int .i64 ty,.int .i64 tmo,.int .i64 td,.int .i64 th,.int .i64 tmi,.int .i64 ts,.int .u64 (P.size:Int),.int .u64 (da.size:Int),.int .u32 (cc:Nat),.int .u64 (at':Int),.bool b]] W fun e w'=>e= .returned (.string LS)∧Below W.heap.size W w'):=Lib.hid (fun W hW=>by
   have h:=local_calls hd W hfine.ok (HTT.out W hW)
   rw[hdv,hLS]at h
   exact h)
  have HD:Hid (∀ W,Below w9.heap.size w9 W→Calls Tryz.prog 60 #[.agg #[.string nm,.int .i64 ty,.int .i64 tmo,.int .i64 td,.int .i64 th,.int .i64 tmi,.int .i64 ts,.int .u64 (P.size:Int),.int .u64 (da.size:Int),.int .u32 (cc:Nat),.int .u64 (at':Int),.bool b]] W fun e w'=>e= .returned (.string DS)∧Below W.heap.size W w'):=Lib.hid (fun W hW=>by
   have h:=descr_calls hd W hfine.ok (HTT.out W hW)
   rw[hdv,hDS]at h
   exact h)
  have HHL:Hid (hdL hd=(#[.string nm,.int .i64 ty,.int .i64 tmo,.int .i64 td,.int .i64 th,.int .i64 tmi,.int .i64 ts,.int .u64 (P.size:Int),.int .u64 (da.size:Int),.int .u32 (cc:Nat),.int .u64 (at':Int),.bool b]:Array Value).toList):=Lib.hid (by rw[← hdl])
  obtain⟨U,f,HA⟩:=above w9.heap.size w9
  have z0:∀ u,(f u).cell? ⟨H,0,none⟩=_:=fun u=>(KH9.below (HA.below u)).cell 0
  have z1:∀ u,(f u).cell? ⟨H,1,none⟩=_:=fun u=>(KH9.below (HA.below u)).cell 1
  have z2:∀ u,(f u).cell? ⟨H,2,none⟩=_:=fun u=>(KH9.below (HA.below u)).cell 2
  have z3:∀ u,(f u).cell? ⟨H,3,none⟩=_:=fun u=>(KH9.below (HA.below u)).cell 3
  have z4:∀ u,(f u).cell? ⟨H,4,none⟩=_:=fun u=>(KH9.below (HA.below u)).cell 4
  have z5:∀ u,(f u).cell? ⟨H,5,none⟩=_:=fun u=>(KH9.below (HA.below u)).cell 5
  have z6:∀ u,(f u).cell? ⟨H,6,none⟩=_:=fun u=>(KH9.below (HA.below u)).cell 6
  have z7:∀ u,(f u).cell? ⟨H,7,none⟩=_:=fun u=>(KH9.below (HA.below u)).cell 7
  have z8:∀ u,(f u).cell? ⟨H,8,none⟩=_:=fun u=>(KH9.below (HA.below u)).cell 8
  have z9:∀ u,(f u).cell? ⟨H,9,none⟩=_:=fun u=>(KH9.below (HA.below u)).cell 9
  have z10:∀ u,(f u).cell? ⟨H,10,none⟩=_:=fun u=>(KH9.below (HA.below u)).cell 10
  have z11:∀ u,(f u).cell? ⟨H,11,none⟩=_:=fun u=>(KH9.below (HA.below u)).cell 11
  have HU:=Lib.hid HA
  have HE:Hid (∀ u,Below w9.heap.size w9 (f u)):=Lib.hid (fun u=>HA.below u)
  obtain⟨u0,hu0⟩:=HA.start
  have hne:Nonempty U:=⟨u0⟩
  clear HA hhd hdl hdv hhe hfs hLS hDS hfine
  rw[hu0]
  clear hu0
  refine wp_region_class (C:=fun w'=>∃ u,w'=f u) (by kernel_rfl) (by kernel_rfl) (HU.out.drew _) ?_
  repeat (go_big_quiet_step (first|(go_at_call 59;refine(HL.out _ (HE.out _)).mono ?_;rintro e w1 ⟨rfl,hb⟩;exact⟨rfl,HU.out.next (Nat.le_refl _) hb⟩)|(go_at_call 60;refine(HD.out _ (HE.out _)).mono ?_;rintro e w1 ⟨rfl,hb⟩;exact⟨rfl,HU.out.next (Nat.le_refl _) hb⟩)))
  refine wpQuiet_nil ?_
  rintro wx ⟨u2,rfl⟩
  have b10:=HE.out u2
  generalize f u2=w10 at b10 ⊢
  have KM10:=KM9.below b10
  have HR10:=Lib.hid (own_below HR9.out b10)
  have HM10:=Lib.hid (HM9.out.next b10)
  have c4:=KM10.cell 4
  have f4:=KM10.frozen 4
  obtain⟨S,hS⟩:∃ S,LS++P++DS=S:=⟨_,rfl⟩
  have hSs:S.size≤1100000:=by rw[← hS,ByteArray.size_append,ByteArray.size_append];omega
  have HT10:Hid (TabC w10 T):=Lib.hid ((HM.out.tab.heap (by
   have hT:=HM.out.tT
   exact HM10.out.block T (by have:=HFF.out;omega) (by rintro(h|h);omega;have:=hvm T h;omega))))
  have HF10:Hid (Cels w10 (some ⟨g,o,none⟩) (fs.flatMap flC)):=Lib.hid (by
   obtain⟨A2,c2,e2,hcel2,hA2⟩:=HM.out.fs
   cases e2
   intro j hj
   obtain⟨g3,o3,e3,h3⟩:=hcel2 j hj
   cases e3
   refine⟨g,o,rfl,?_⟩
   rw[World.cell?_of_block (a:=⟨g,o+j,none⟩) (HM10.out.block g (by have:=HFF.out;omega) (by rintro(h|h);omega;have:=hvm g h;omega))]
   exact h3)
  rw[hS]at HFS
  go_upto_region 11 with fail
  rw[hS]
  clear hS
  have HX:Hid (MkAt (w10.setCell ⟨m,4,none⟩ (.int .i64 ((at':Int)+(S.size:Int)))) lo m T level fs (.slice (some ⟨g,o,none⟩) n c) ⟨k+1,at'+S.size,hs ++ [hd],rest,tail⟩ v'):=Lib.hid (by
   have eN:((at'+S.size:Nat):Int)=(at':Int)+(S.size:Int):=by push_cast;rfl
   refine⟨KM10.setTo 4 _ ?_,?_,?_,HM.out.tT,⟨_,c,by rw[HN.out],?_,fun g2 o2 e2=>by cases e2;exact hgm⟩⟩
   ·show _= #[_,_,_,_,Value.int .i64 ((at'+S.size:Nat):Int),_,_,_]
    rw[eN]
    rfl
   ·have e1:(hs ++ [hd]).length=hs.length+1:=by simp
    have e2:(hs ++ [hd]).flatMap hdL=hs.flatMap hdL++hdL hd:=by simp
    show World.ownsRow _ _ _ _ _ (hs ++ [hd]).length ((hs ++ [hd]).flatMap hdL)
    rw[e1,e2]
    exact own_same HR10.out (fun j hj=>Below.heap_setCell w10 ⟨m,4,none⟩ _ j (fun e=>by have e2:j=m:=e;have:=(HR10.out.lt j hj).1;omega))
   ·exact HT10.out.heap (Below.heap_setCell w10 ⟨m,4,none⟩ _ T (by show T≠m;have:=HM.out.tT;omega))
   ·intro j hj
    obtain⟨g3,o3,e3,h3⟩:=HF10.out j hj
    cases e3
    refine⟨g,o,rfl,?_⟩
    rw[World.cell?_of_block (a:=⟨g,o+j,none⟩) (Below.heap_setCell w10 ⟨m,4,none⟩ _ g (by show g≠m;omega))]
    exact h3)
  have HY:=Lib.hid (HM10.out.set 4 (.int .i64 ((at':Int)+(S.size:Int))))
  go_wp2_with fail
  go_ret
  refine⟨v',by rw[HFS.out]<;>rfl,?_,HY.out,HFR.out⟩
  rw[HFS.out,HHE.out,HN.out]
  exact HX.out
end Go.Proofs.YtgiogemkomgkhaaGreatDoor.Ar
