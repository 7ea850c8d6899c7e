/-
  The reference's descriptor and central header, of heads without great numbers. (Printed by mkamref2.py.)
-/
import Derived.Test.YtgiogemkomgkhaaGreatDoorKZpC
import Derived.Test.YtgiogemkomgkhaaGreatDoorKZpHead3
import Derived.Test.YtgiogemkomgkhaaGreatDoorKZpR
import Derived.Test.YtgiogemkomgkhaaGreatDoorKRegA
set_option linter.unusedVariables false
set_option linter.unusedSimpArgs false
namespace Go.Proofs.YtgiogemkomgkhaaGreatDoor.Zp
open Go.RowKit Go.Shelf YtgiogemkomgkhaaGreatDoor.Nm Ri
set_option maxHeartbeats 1000000 in
set_option maxRecDepth 100000 in
theorem refbig_calls (h:Hd) (w:World):Calls Tryz.prog 50 #[h.val] w fun e w'=>e= .returned (.bool (bigH h))∧Below w.heap.size w w':=by
 obtain⟨name,⟨y,mo,d,hh,mi,s⟩,packed,size,sum,pos,kept⟩:=h
 have B0:=Lib.hid (Below.refl w.heap.size w)
 simp only[Hd.val,Tm.val,bigH]
 cases q1:decide (4294705145<size)<;>cases q2:decide (4294705145<packed)
 all_goals
  go_enter Tryz.func50,Tryz.ntmps50
  go_wp2
  go_ret
  exact⟨rfl,B0.out.alloc B0.out.size _⟩
def plk (s:ByteArray) (k:Nat):Bool:=(s.data.toList.take k).all fun c=>decide (c.toNat<128)
theorem plk_all (s:ByteArray) (k:Nat) (h:¬ k<s.size):plk s k=plainB s:=by
 unfold plk plainB
 rw[List.take_of_length_le]
 have:s.data.toList.length=s.size:=rfl
 omega
theorem plk_succ (s:ByteArray) (k:Nat) (h:k<s.size):plk s (k+1)=(plk s k && decide ((s[k].toNat:Int)<128)):=by
 have e:s.data.toList.take (k+1)=s.data.toList.take k ++ [s[k]]:=by
  rw[List.take_succ_eq_append_getElem (show k<s.data.toList.length from h)]
  rfl
 have e2:decide (s[k].toNat<128)=decide ((s[k].toNat:Int)<128):=decide_eq_decide.2 (by omega)
 unfold plk
 rw[e,List.all_append]
 show(_ && (decide (s[k].toNat<128) && true))=_
 rw[Bool.and_true,e2]
set_option maxHeartbeats 2000000 in
set_option maxRecDepth 100000 in
theorem refcommon_calls (h:Hd) (w:World) (hn:h.name.size≤140737488351232) (hg:tgood h.t=true):Calls Tryz.prog 52 #[h.val] w fun e w'=>e= .returned (.string (comS h))∧Below w.heap.size w w':=by
 have hd:=dateN_lt (tgood_within hg)
 have ht:=timeN_lt (tgood_within hg)
 obtain⟨b1,b2,b3,b4,b5,b6,b7⟩:=tgood_within hg
 obtain⟨R,HR⟩:∃ R,R=comS h:=⟨_,rfl⟩
 rw[← HR]
 unfold comS at HR
 obtain⟨name,⟨y,mo,d,hh,mi,s⟩,packed,size,sum,pos,kept⟩:=h
 unfold dateN at hd HR
 unfold timeN at ht HR
 simp only at hn hg hd ht HR b1 b2 b3 b4 b5 b6 b7
 simp only[Hd.val]
 clear hg
 have B0:=(Below.refl w.heap.size w).alloc (Nat.le_refl _) (.cells #[.string name,.int .i64 y,.int .i64 mo,.int .i64 d,.int .i64 hh,.int .i64 mi,.int .i64 s,.int .u64 packed,.int .u64 size,.int .u32 sum,.int .u64 pos,.bool kept] 84)
 have K:=Blk.new w #[.string name,.int .i64 y,.int .i64 mo,.int .i64 d,.int .i64 hh,.int .i64 mi,.int .i64 s,.int .u64 packed,.int .u64 size,.int .u32 sum,.int .u64 pos,.bool kept] 84
 cases kept
 all_goals
  go_enter Tryz.func52,Tryz.ntmps52
  go_upto_region 6 with fail
  obtain⟨B,hB⟩:∃ B,w.heap.size=B:=⟨_,rfl⟩
  generalize w.alloc _=W at *
  rw[hB]at K
  rw[hB]
  have c0:=K.cell 0
  have c1:=K.cell 1
  have c2:=K.cell 2
  have c3:=K.cell 3
  have c4:=K.cell 4
  have c5:=K.cell 5
  have c6:=K.cell 6
  simp only[List.getElem?_toArray,List.getElem?_cons_zero,List.getElem?_cons_succ]at c0 c1 c2 c3 c4 c5 c6
  have HH:=Lib.hid (And.intro hd ht)
  have HK:=Lib.hid K
  have HB0:=Lib.hid B0
  clear hd ht K B0
  go_loop [5,6] (fun p i=>∃ k:Nat,k≤name.size∧i= .int .i64 k∧p= .bool (plk name k)) (fun _ i=>name.size - (intOf i).toNat)
  case atStart=>exact⟨0,Nat.zero_le _,rfl,rfl⟩
  case round =>
   obtain⟨k,hk,rfl,rfl⟩:=hrel
   by_cases hlt:k<name.size
   ·have HS:=Lib.hid (plk_succ name k hlt)
    cases hp:plk name k with
    | false =>
     have HQ:Hid (plk name (k+1)=false):=Lib.hid (by rw[HS.out,hp];rfl)
     clear hp
     go_wp2
     go_round
     case rel=>exact⟨k+1,by omega,by go_num,by rw[HQ.out]⟩
     case measure=>simp[intOf];omega
    | true =>
     have HQ:Hid (plk name (k+1)=decide ((name[k].toNat:Int)<128)):=Lib.hid (by rw[HS.out,hp];rfl)
     clear hp
     go_wp2
     go_round
     case rel=>exact⟨k+1,by omega,by go_num,by rw[HQ.out]⟩
     case measure=>simp[intOf];omega
   ·have HP:=Lib.hid (plk_all name k hlt)
    rw[HP.out]
    clear HP
    cases hp:plainB name
    all_goals
     rw[hp]at HR
     have H3:=Lib.hid HR
     clear HR hp
     go_upto_region 12 with fail
     have K2:=Blk.new W #[.int .i64 y,.int .i64 mo,.int .i64 d,.int .i64 hh,.int .i64 mi,.int .i64 s] 51
     have B2:=HB0.out.alloc HB0.out.size (.cells #[.int .i64 y,.int .i64 mo,.int .i64 d,.int .i64 hh,.int .i64 mi,.int .i64 s] 51)
     obtain⟨B',hB'⟩:∃ B',W.heap.size=B':=⟨_,rfl⟩
     generalize W.alloc _=W2 at *
     rw[hB']at K2
     rw[hB']
     obtain⟨U,f,HA⟩:=above W2.heap.size W2
     have d0:=HA.cell K2 K2.lt 0 _ rfl
     have d1:=HA.cell K2 K2.lt 1 _ rfl
     have d2:=HA.cell K2 K2.lt 2 _ rfl
     have d3:=HA.cell K2 K2.lt 3 _ rfl
     have d4:=HA.cell K2 K2.lt 4 _ rfl
     have d5:=HA.cell K2 K2.lt 5 _ rfl
     have HU:=Lib.hid HA
     obtain⟨u0,hu0⟩:=HA.start
     have hne:Nonempty U:=⟨u0⟩
     have HE:Hid (∀ u,Below w.heap.size w (f u)):=Lib.hid (fun u=>B2.trans ((HA.below u).mono B2.size))
     clear HA K2 B2 c0 c1 c2 c3 c4 c5 c6 HB0 hB hB'
     rw[hu0]
     clear hu0
     have hh1:=HH.out.1
     have hh2:=HH.out.2
     have e2:=puI_2
     have t1:s.tdiv 2=s/2:=by rw[Int.tdiv_eq_ediv_of_nonneg b6.1]
     have a1:IntKind.i64.wrap (s/2)=s/2:=by rw[IntKind.wrap_i64];omega
     have a2:IntKind.i64.wrap (32*mi)=32*mi:=by rw[IntKind.wrap_i64];omega
     have a3:IntKind.i64.wrap (s/2+32*mi)=s/2+32*mi:=by rw[IntKind.wrap_i64];omega
     have a4:IntKind.i64.wrap (2048*hh)=2048*hh:=by rw[IntKind.wrap_i64];omega
     have a5:IntKind.i64.wrap (s/2+32*mi+2048*hh)=s/2+32*mi+2048*hh:=by rw[IntKind.wrap_i64];omega
     have a6:IntKind.u64.wrap (s/2+32*mi+2048*hh)=s/2+32*mi+2048*hh:=by rw[IntKind.wrap_u64];omega
     have a7:IntKind.i64.wrap (32*mo)=32*mo:=by rw[IntKind.wrap_i64];omega
     have a8:IntKind.i64.wrap (d+32*mo)=d+32*mo:=by rw[IntKind.wrap_i64];omega
     have a9:IntKind.i64.wrap (y - 1980)=y - 1980:=by rw[IntKind.wrap_i64];omega
     have a10:IntKind.i64.wrap (512*(y - 1980))=512*(y - 1980):=by rw[IntKind.wrap_i64];omega
     have a11:IntKind.i64.wrap (d+32*mo+512*(y - 1980))=d+32*mo+512*(y - 1980):=by rw[IntKind.wrap_i64];omega
     have a12:IntKind.u64.wrap (d+32*mo+512*(y - 1980))=d+32*mo+512*(y - 1980):=by rw[IntKind.wrap_u64];omega
     refine wp_region_class (C:=fun w'=>∃ u,w'=f u) (by kernel_rfl) (by kernel_rfl) (HU.out.drew _) ?_
     repeat (go_big_quiet_step (first|(go_at_call 51;refine(n2_calls _ _ (by omega) (by omega)).mono ?_;rintro e w1 ⟨rfl,hb⟩;exact⟨rfl,HU.out.next (Nat.le_refl _) hb⟩)))
     refine wpQuiet_nil ?_
     rintro wx ⟨u2,rfl⟩
     go_wp2
     go_ret
     exact⟨by rw[H3.out];rfl,HE.out _⟩
theorem zmake (n:Nat) (hn:n≤100) (W:World):(Instr.makeSlice 101 (.int .i64 n) (.int .i64 n)).run Tryz.prog W= .ok (.slice (some ⟨W.heap.size,0,none⟩) n n) (W.alloc (.cells (madeCells #[.int .u8 0] n) 5)):=by
 obtain⟨i0,hi,hz0,hz1,hz2⟩:=info_parts Tryz.infoByteZ
 have:=run_make (P:=Tryz.prog) W 101 5 i0 (.int .u8 0) Tryz.underlying101 hi hz0 .i64 .i64 n n (by omega) (by omega) (by rw[hz2];omega) (by omega)
 simpa[hz1,Value.cells] using this
theorem zconv (n:Nat) (hz:strOfNums (List.replicate n 0)=zer n) (B:Nat) (W:World) (h:W.heap[B]?=some (.cells (madeCells #[.int .u8 0] n) 5 (0,0))):(convert 101 9 (.slice (some ⟨B,0,none⟩) n n)).run Tryz.prog W= .ok (.string (zer n)) W:=by
 have hcell:∀ i,i<n→W.cell? ⟨B,0+i,none⟩=some (.int .u8 ((List.replicate n (0:Int)).getD i 0)):=fun i hi=>by
  simp only[World.cell?]
  rw[h]
  have e:(madeCells #[.int .u8 0] n)[0+i]?=some (.int .u8 0):=by
   rw[← Array.getElem?_toList,toList_madeCells_one,List.getElem?_replicate,if_pos (by omega)]
  have e2:(List.replicate n (0:Int)).getD i 0=0:=by simp[List.getD,List.getElem?_replicate,hi]
  rw[e2]
  simpa using e
 have:=run_convert_bytes_arg (P:=Tryz.prog) (w:=W) 101 5 Tryz.underlying101 Tryz.underlying5 B 0 n n (List.replicate n 0) (List.length_replicate) hcell 9 Tryz.underlying9
 rw[hz]at this
 exact this
def zEs (p n:Nat):List Mk:= [⟨p,p,row n,madeCells #[.int .u8 0] n,#[],5⟩]
end Go.Proofs.YtgiogemkomgkhaaGreatDoor.Zp
namespace Go.Proofs.YtgiogemkomgkhaaGreatDoor.Zp
open Go.RowKit Go.Shelf YtgiogemkomgkhaaGreatDoor.Nm Ri
set_option maxHeartbeats 2000000 in
set_option maxRecDepth 100000 in
theorem reflocal_calls (h:Hd) (w:World) (ho:h.ok) (hg:goodH h=true) (hb:bigH h=false):Calls Tryz.prog 30 #[h.val] w fun e w'=>e= .returned (.string (locS h))∧Below w.heap.size w w':=by
 obtain⟨R,HR⟩:∃ R,R=locS h:=⟨_,rfl⟩
 rw[← HR]
 unfold locS at HR
 rw[hg,hb,if_pos rfl,if_neg Bool.false_ne_true]at HR
 have hgo:=fun W=>rgood_calls h W ho
 have hbi:=fun W=>refbig_calls h W
 have hco:=fun W=>refcommon_calls h W ho.n (goodH_parts hg).2.1
 rw[hg]at hgo
 rw[hb]at hbi
 have hcs:=comS_size h
 obtain⟨hn,hp,hs,hu,ha⟩:=ho
 obtain⟨name,⟨y,mo,d,hh,mi,sx⟩,packed,size,sum,pos,kept⟩:=h
 simp only at hn hp hs hu ha HR
 simp only[Hd.val]at hgo hbi hco ⊢
 generalize comS ⟨name,⟨y,mo,d,hh,mi,sx⟩,packed,size,sum,pos,kept⟩=CS at *
 have HG:=Lib.hid hgo
 have HB:=Lib.hid hbi
 have HC:=Lib.hid hco
 have H3:=Lib.hid HR
 clear hgo hbi hco hg hb HR
 have B0:=(Below.refl w.heap.size w).alloc (Nat.le_refl _) (.cells #[.string name,.int .i64 y,.int .i64 mo,.int .i64 d,.int .i64 hh,.int .i64 mi,.int .i64 sx,.int .u64 packed,.int .u64 size,.int .u32 sum,.int .u64 pos,.bool kept] 84)
 have K:=Blk.new w #[.string name,.int .i64 y,.int .i64 mo,.int .i64 d,.int .i64 hh,.int .i64 mi,.int .i64 sx,.int .u64 packed,.int .u64 size,.int .u32 sum,.int .u64 pos,.bool kept] 84
 go_enter Tryz.func30,Tryz.ntmps30
 go_upto_region 1 with fail
 obtain⟨B,hB⟩:∃ B,w.heap.size=B:=⟨_,rfl⟩
 generalize w.alloc _=W at *
 rw[hB]at K
 rw[hB]
 obtain⟨U,f,HA⟩:=above W.heap.size W
 have c0:=HA.cell K K.lt 0 _ rfl
 have c1:=HA.cell K K.lt 1 _ rfl
 have c2:=HA.cell K K.lt 2 _ rfl
 have c3:=HA.cell K K.lt 3 _ rfl
 have c4:=HA.cell K K.lt 4 _ rfl
 have c5:=HA.cell K K.lt 5 _ rfl
 have c6:=HA.cell K K.lt 6 _ rfl
 have c7:=HA.cell K K.lt 7 _ rfl
 have c8:=HA.cell K K.lt 8 _ rfl
 have c9:=HA.cell K K.lt 9 _ rfl
 have c10:=HA.cell K K.lt 10 _ rfl
 have c11:=HA.cell K K.lt 11 _ rfl
 have HU:=Lib.hid HA
 obtain⟨u0,hu0⟩:=HA.start
 have HE:Hid (∀ u,Below w.heap.size w (f u)):=Lib.hid (fun u=>B0.trans ((HA.below u).mono B0.size))
 have HKW:Hid (∀ u,Blk B #[.string name,.int .i64 y,.int .i64 mo,.int .i64 d,.int .i64 hh,.int .i64 mi,.int .i64 sx,.int .u64 packed,.int .u64 size,.int .u32 sum,.int .u64 pos,.bool kept] 84 (f u)):=Lib.hid (fun u=>K.below (HA.below u))
 clear HA K B0 hB
 rw[hu0]
 clear hu0
 go_wp2_with (first|(go_at_call 49;refine(HG.out _).mono ?_;rintro e w1 ⟨rfl,hb⟩;obtain⟨u1,rfl⟩:=HU.out.next (Nat.le_refl _) hb;clear hb)|(go_at_call 50;refine(HB.out _).mono ?_;rintro e w1 ⟨rfl,hb⟩;obtain⟨u1,rfl⟩:=HU.out.next (Nat.le_refl _) hb;clear hb))
 have hw0:∃ W,W=f u1:=⟨_,rfl⟩
 obtain⟨W1,hW1⟩:=hw0
 have hE:=HE.out u1
 have hKW:=HKW.out u1
 rw[← hW1]at hE hKW ⊢
 clear hW1 HU HE HKW HG HB
 obtain⟨U,f,hU,hf⟩:=worldsS (MkP W1 (zEs 5 12) [])
 have hne:∃ L X w,MkP W1 (zEs 5 12) [] L X w:=⟨_,fun _=>undef,_,mk_start W1⟩
 have HN:Hid (∀ s u w1,Below (f s u).heap.size (f s u) w1→∃ u',w1=f s u'):=Lib.hid (fun s u w1 hb=>hU s w1 (mk_next (hf s u) hb))
 have cs:∀ s u k,(f s u).cell? ⟨B,k,none⟩=_:=fun s u k=>(hKW.under hKW.lt (hf s u).below).cell k
 have c0:∀ s u,(f s u).cell? ⟨B,0,none⟩=some (.string name):=fun s u=>cs s u 0
 have c1:∀ s u,(f s u).cell? ⟨B,1,none⟩=some (.int .i64 y):=fun s u=>cs s u 1
 have c2:∀ s u,(f s u).cell? ⟨B,2,none⟩=some (.int .i64 mo):=fun s u=>cs s u 2
 have c3:∀ s u,(f s u).cell? ⟨B,3,none⟩=some (.int .i64 d):=fun s u=>cs s u 3
 have c4:∀ s u,(f s u).cell? ⟨B,4,none⟩=some (.int .i64 hh):=fun s u=>cs s u 4
 have c5:∀ s u,(f s u).cell? ⟨B,5,none⟩=some (.int .i64 mi):=fun s u=>cs s u 5
 have c6:∀ s u,(f s u).cell? ⟨B,6,none⟩=some (.int .i64 sx):=fun s u=>cs s u 6
 have c7:∀ s u,(f s u).cell? ⟨B,7,none⟩=some (.int .u64 packed):=fun s u=>cs s u 7
 have c8:∀ s u,(f s u).cell? ⟨B,8,none⟩=some (.int .u64 size):=fun s u=>cs s u 8
 have c9:∀ s u,(f s u).cell? ⟨B,9,none⟩=some (.int .u32 sum):=fun s u=>cs s u 9
 have c10:∀ s u,(f s u).cell? ⟨B,10,none⟩=some (.int .u64 pos):=fun s u=>cs s u 10
 have c11:∀ s u,(f s u).cell? ⟨B,11,none⟩=some (.bool kept):=fun s u=>cs s u 11
 have e2:=puI_2
 have e4:=puI_4
 have ev:=verS_size
 have z12:=zer_12
 have hwn:IntKind.u64.wrap (name.size:Int)=(name.size:Int):=by rw[IntKind.wrap_u64];omega
 have HW:=Lib.hid hE
 clear cs hKW hE
 refine wp_region_all [5] (MkP W1 (zEs 5 12) []) (by kernel_rfl) (by kernel_rfl) (fun _=>undef) (mk_start W1) ?_
 iterate 5
  apply all_quiet hne hU hf (fun L X w h=>mk_still h (by decide) (by decide)) (by decide) rfl (by simp)
  ·intro s X hn K' hK'
   go_big_quiet_op
   first
    | exact hK'
    | (apply Exists.intro
       refine⟨fun _=>?_,?_⟩
       ·first
        | (go_at_call 51;refine(n2_calls _ _ (by omega) (by omega)).mono ?_;rintro e w1 ⟨rfl,hb⟩;exact⟨rfl,HN.out _ _ _ hb⟩)
        | (go_at_call 52;refine(HC.out _).mono ?_;rintro e w1 ⟨rfl,hb⟩;exact⟨rfl,HN.out _ _ _ hb⟩)
       exact hK')
  ·exact fun _ _=>rfl
 refine all_free (by decide) (by simp) (fun e=>by cases e) (fun X L w hL hP hw K' hK=>?_) (by intro X;simp[Act.put];rfl) ?_
 ·have hm:=zmake 12 (by omega) w
  unfold Oper.wp
  simp[execOp,Act.eval,go_sem]at hm ⊢
  rw[hm]
  exact hK _ _ (mk_make (by decide) hw List.mem_cons_self (fun _=>rfl) hL)
 refine all_move (.string (zer 12)) (by decide) (by simp) (fun X L w hL hP hw K' hK=>?_) (by intro X;simp[Act.put];rfl) ?_
 ·have h5:L 5=true:=pre_mem hP 5 (by decide)
  obtain⟨B5,hx, -, -,hb5⟩:=mk_at hw List.mem_cons_self h5
  have hcv:=zconv 12 rfl B5 w hb5
  have hx2:X 5= .slice (some ⟨B5,0,none⟩) 12 12:=hx
  unfold Oper.wp
  have h7:=hK w (mk_still hw (by decide) (by decide))
  simp[Act.put,hx2]at h7
  simp[execOp,Act.eval,hx2,hcv,go_sem]
  exact h7
 repeat
  apply all_quiet hne hU hf (fun L X w h=>mk_still h (by decide) (by decide)) (by decide) rfl (by simp)
  ·intro s X hn K' hK'
   go_big_quiet_op
   first
    | exact hK'
    | (apply Exists.intro
       refine⟨fun _=>?_,?_⟩
       ·first
        | (go_at_call 51;refine(n2_calls _ _ (by omega) (by omega)).mono ?_;rintro e w1 ⟨rfl,hb⟩;exact⟨rfl,HN.out _ _ _ hb⟩)
        | (go_at_call 52;refine(HC.out _).mono ?_;rintro e w1 ⟨rfl,hb⟩;exact⟨rfl,HN.out _ _ _ hb⟩)
       exact hK')
  ·exact fun _ _=>rfl
 refine all_nil ?_
 intro X L wx hall hw
 have hbw:=HW.out.trans (hw.below.mono HW.out.size)
 go_wp2
 go_ret
 exact⟨by rw[H3.out];rfl,hbw⟩
end Go.Proofs.YtgiogemkomgkhaaGreatDoor.Zp
namespace Go.Proofs.YtgiogemkomgkhaaGreatDoor.Zp
open Go.RowKit Go.Shelf YtgiogemkomgkhaaGreatDoor.Nm Ri
set_option maxHeartbeats 2000000 in
set_option maxRecDepth 100000 in
theorem refdescr_calls (h:Hd) (w:World) (ho:h.ok) (hg:goodH h=true) (hb:bigH h=false) (hk:h.kept=false):Calls Tryz.prog 31 #[h.val] w fun e w'=>e= .returned (.string (desS h))∧Below w.heap.size w w':=by
 obtain⟨R,HR⟩:∃ R,R=desS h:=⟨_,rfl⟩
 rw[← HR]
 unfold desS at HR
 have hgo:=fun W=>rgood_calls h W ho
 have hbi:=fun W=>refbig_calls h W
 have hco:=fun W=>refcommon_calls h W ho.n (goodH_parts hg).2.1
 rw[hg]at hgo HR
 rw[hb]at hbi HR
 rw[hk]at HR
 simp only[Bool.not_false,Bool.and_true,if_true,Bool.false_eq_true,if_false]at HR
 obtain⟨hn,hp,hs,hu,ha⟩:=ho
 obtain⟨name,⟨y,mo,d,hh,mi,sx⟩,packed,size,sum,pos,kept⟩:=h
 simp only at hn hp hs hu ha HR hk
 simp only[Hd.val]at hgo hbi hco ⊢
 subst hk
 have HG:=Lib.hid hgo
 have HB:=Lib.hid hbi
 have H3:=Lib.hid HR
 clear hgo hbi hco hg hb HR
 have B0:=(Below.refl w.heap.size w).alloc (Nat.le_refl _) (.cells #[.string name,.int .i64 y,.int .i64 mo,.int .i64 d,.int .i64 hh,.int .i64 mi,.int .i64 sx,.int .u64 packed,.int .u64 size,.int .u32 sum,.int .u64 pos,.bool false] 84)
 have K:=Blk.new w #[.string name,.int .i64 y,.int .i64 mo,.int .i64 d,.int .i64 hh,.int .i64 mi,.int .i64 sx,.int .u64 packed,.int .u64 size,.int .u32 sum,.int .u64 pos,.bool false] 84
 go_enter Tryz.func31,Tryz.ntmps31
 go_upto_region 1 with fail
 obtain⟨B,hB⟩:∃ B,w.heap.size=B:=⟨_,rfl⟩
 generalize w.alloc _=W at *
 rw[hB]at K
 rw[hB]
 obtain⟨U,f,HA⟩:=above W.heap.size W
 have c0:=HA.cell K K.lt 0 _ rfl
 have c1:=HA.cell K K.lt 1 _ rfl
 have c2:=HA.cell K K.lt 2 _ rfl
 have c3:=HA.cell K K.lt 3 _ rfl
 have c4:=HA.cell K K.lt 4 _ rfl
 have c5:=HA.cell K K.lt 5 _ rfl
 have c6:=HA.cell K K.lt 6 _ rfl
 have c7:=HA.cell K K.lt 7 _ rfl
 have c8:=HA.cell K K.lt 8 _ rfl
 have c9:=HA.cell K K.lt 9 _ rfl
 have c10:=HA.cell K K.lt 10 _ rfl
 have c11:=HA.cell K K.lt 11 _ rfl
 have HU:=Lib.hid HA
 obtain⟨u0,hu0⟩:=HA.start
 have hneU:Nonempty U:=⟨u0⟩
 have HE:Hid (∀ u,Below w.heap.size w (f u)):=Lib.hid (fun u=>B0.trans ((HA.below u).mono B0.size))
 have HKW:Hid (∀ u,Blk B #[.string name,.int .i64 y,.int .i64 mo,.int .i64 d,.int .i64 hh,.int .i64 mi,.int .i64 sx,.int .u64 packed,.int .u64 size,.int .u32 sum,.int .u64 pos,.bool false] 84 (f u)):=Lib.hid (fun u=>K.below (HA.below u))
 clear HA K B0 hB
 rw[hu0]
 clear hu0
 go_wp2_with (first|(go_at_call 49;refine(HG.out _).mono ?_;rintro e w1 ⟨rfl,hb⟩;obtain⟨u1,rfl⟩:=HU.out.next (Nat.le_refl _) hb;clear hb)|(go_at_call 50;refine(HB.out _).mono ?_;rintro e w1 ⟨rfl,hb⟩;obtain⟨u1,rfl⟩:=HU.out.next (Nat.le_refl _) hb;clear hb))
 obtain⟨W1,hW1⟩:∃ W,W=f u1:=⟨_,rfl⟩
 have hE:=HE.out u1
 have hKW:=HKW.out u1
 rw[← hW1]at hE hKW ⊢
 clear hW1 HU HE HKW HG HB c0 c1 c2 c3 c4 c5 c6 c7 c8 c9 c10 c11
 obtain⟨U,f,hU,hf⟩:=worldsS (MkP W1 [] [])
 have hne:∃ L X w,MkP W1 [] [] L X w:=⟨_,fun _=>undef,_,mk_start W1⟩
 have HN:Hid (∀ s u w1,Below (f s u).heap.size (f s u) w1→∃ u',w1=f s u'):=Lib.hid (fun s u w1 hb=>hU s w1 (mk_next (hf s u) hb))
 have c7:∀ s u,(f s u).cell? ⟨B,7,none⟩=some (.int .u64 packed):=fun s u=>(hKW.under hKW.lt (hf s u).below).cell 7
 have c8:∀ s u,(f s u).cell? ⟨B,8,none⟩=some (.int .u64 size):=fun s u=>(hKW.under hKW.lt (hf s u).below).cell 8
 have c9:∀ s u,(f s u).cell? ⟨B,9,none⟩=some (.int .u32 sum):=fun s u=>(hKW.under hKW.lt (hf s u).below).cell 9
 have e2:=puI_2
 have e4:=puI_4
 have e8:=puI_8
 have ev:=verS_size
 have hwn:IntKind.u64.wrap (name.size:Int)=(name.size:Int):=by rw[IntKind.wrap_u64];omega
 have hws:IntKind.u64.wrap sum=sum:=by rw[IntKind.wrap_u64];omega
 have HW:=Lib.hid hE
 clear hKW hE
 refine wp_region_all [] (MkP W1 [] []) (by kernel_rfl) (by kernel_rfl) (fun _=>undef) (mk_start W1) ?_
 repeat
  apply all_quiet hne hU hf (fun L X w h=>mk_still h (by decide) (by decide)) (by decide) rfl (by simp)
  ·intro s X hn K' hK'
   go_big_quiet_op
   first
    | exact hK'
    | (apply Exists.intro
       refine⟨fun _=>?_,?_⟩
       ·first
        | (go_at_call 53;refine(n4_calls _ _ (by omega) (by omega)).mono ?_;rintro e w1 ⟨rfl,hb⟩;exact⟨rfl,HN.out _ _ _ hb⟩)
        | (go_at_call 54;refine(refput_any _ _ _ (by omega) (by omega) (by omega) (by omega)).mono ?_;rintro e w1 ⟨rfl,hb⟩;exact⟨rfl,HN.out _ _ _ hb⟩)
       exact hK')
  ·exact fun _ _=>rfl
 refine all_nil ?_
 intro X L wx hall hw
 have hbw:=HW.out.trans (hw.below.mono HW.out.size)
 go_wp2
 go_ret
 exact⟨by rw[H3.out];rfl,hbw⟩
set_option maxHeartbeats 2000000 in
set_option maxRecDepth 100000 in
theorem refdescr_any (h:Hd) (w:World) (ho:h.ok) (hg:goodH h=true) (hb:bigH h=false):Calls Tryz.prog 31 #[h.val] w fun e w'=>e= .returned (.string (desS h))∧Below w.heap.size w w':=by
 cases hk:h.kept with
 | false=>exact refdescr_calls h w ho hg hb hk
 | true =>
  have hd:desS h=⟨#[]⟩:=by unfold desS;rw[hk,Bool.not_true,Bool.and_false,if_neg Bool.false_ne_true]
  rw[hd]
  have hgo:=fun W=>rgood_calls h W ho
  rw[hg]at hgo
  obtain⟨name,⟨y,mo,d,hh,mi,sx⟩,packed,size,sum,pos,kept⟩:=h
  simp only at hk
  subst hk
  simp only[Hd.val]at hgo ⊢
  have HG:=Lib.hid hgo
  clear hgo ho hg hb hd
  have B0:=Lib.hid ((Below.refl w.heap.size w).alloc (Nat.le_refl _) (.cells #[.string name,.int .i64 y,.int .i64 mo,.int .i64 d,.int .i64 hh,.int .i64 mi,.int .i64 sx,.int .u64 packed,.int .u64 size,.int .u32 sum,.int .u64 pos,.bool true] 84))
  have K:=Lib.hid (Blk.new w #[.string name,.int .i64 y,.int .i64 mo,.int .i64 d,.int .i64 hh,.int .i64 mi,.int .i64 sx,.int .u64 packed,.int .u64 size,.int .u32 sum,.int .u64 pos,.bool true] 84)
  go_enter Tryz.func31,Tryz.ntmps31
  go_upto_region 1 with fail
  obtain⟨B,hB⟩:∃ B,w.heap.size=B:=⟨_,rfl⟩
  generalize w.alloc _=W at *
  rw[hB]at K
  rw[hB]
  obtain⟨U,f,HA⟩:=above W.heap.size W
  have c0:=HA.cell K.out K.out.lt 0 _ rfl
  have c1:=HA.cell K.out K.out.lt 1 _ rfl
  have c2:=HA.cell K.out K.out.lt 2 _ rfl
  have c3:=HA.cell K.out K.out.lt 3 _ rfl
  have c4:=HA.cell K.out K.out.lt 4 _ rfl
  have c5:=HA.cell K.out K.out.lt 5 _ rfl
  have c6:=HA.cell K.out K.out.lt 6 _ rfl
  have c7:=HA.cell K.out K.out.lt 7 _ rfl
  have c8:=HA.cell K.out K.out.lt 8 _ rfl
  have c9:=HA.cell K.out K.out.lt 9 _ rfl
  have c10:=HA.cell K.out K.out.lt 10 _ rfl
  have c11:=HA.cell K.out K.out.lt 11 _ rfl
  have HU:=Lib.hid HA
  obtain⟨u0,hu0⟩:=HA.start
  have HE:Hid (∀ u,Below w.heap.size w (f u)):=Lib.hid (fun u=>B0.out.trans ((HA.below u).mono B0.out.size))
  clear HA B0 hB
  rw[hu0]
  clear hu0 K
  go_wp2_with (first|(go_at_call 49;refine(HG.out _).mono ?_;rintro e w1 ⟨rfl,hb⟩;obtain⟨u1,rfl⟩:=HU.out.next (Nat.le_refl _) hb;clear hb))
  go_ret
  exact⟨rfl,HE.out _⟩
set_option maxHeartbeats 2000000 in
set_option maxRecDepth 100000 in
theorem refcentral_calls (h:Hd) (w:World) (ho:h.ok) (hg:goodH h=true) (hb:bigH h=false) (hf:h.pos≤4294967294):Calls Tryz.prog 55 #[h.val] w fun e w'=>e= .returned (.string (cenS h))∧Below w.heap.size w w':=by
 obtain⟨R,HR⟩:∃ R,R=cenS h:=⟨_,rfl⟩
 rw[← HR]
 unfold cenS at HR
 have hgo:=fun W=>rgood_calls h W ho
 have hbi:=fun W=>refbig_calls h W
 have hco:=fun W=>refcommon_calls h W ho.n (goodH_parts hg).2.1
 rw[hg]at hgo HR
 rw[hb]at hbi HR
 have hfar:farH h=false:=decide_eq_false (by omega)
 rw[hfar]at HR
 have hpk:h.packed≤4294705145:=by unfold bigH at hb;simp at hb;omega
 have hsz:h.size≤4294705145:=by unfold bigH at hb;simp at hb;omega
 simp only[Bool.or_false,if_true,extS,Bool.false_eq_true,if_false,narS]at HR
 have hcs:=comS_size h
 obtain⟨hn,hp,hs,hu,ha⟩:=ho
 obtain⟨name,⟨y,mo,d,hh,mi,sx⟩,packed,size,sum,pos,kept⟩:=h
 simp only at hn hp hs hu ha HR hf hpk hsz
 simp only[Hd.val]at hgo hbi hco ⊢
 generalize comS ⟨name,⟨y,mo,d,hh,mi,sx⟩,packed,size,sum,pos,kept⟩=CS at *
 have HG:=Lib.hid hgo
 have HB:=Lib.hid hbi
 have HC:=Lib.hid hco
 have H3:=Lib.hid HR
 clear hgo hbi hco hg hb HR hfar
 have B0:=(Below.refl w.heap.size w).alloc (Nat.le_refl _) (.cells #[.string name,.int .i64 y,.int .i64 mo,.int .i64 d,.int .i64 hh,.int .i64 mi,.int .i64 sx,.int .u64 packed,.int .u64 size,.int .u32 sum,.int .u64 pos,.bool kept] 84)
 have K:=Blk.new w #[.string name,.int .i64 y,.int .i64 mo,.int .i64 d,.int .i64 hh,.int .i64 mi,.int .i64 sx,.int .u64 packed,.int .u64 size,.int .u32 sum,.int .u64 pos,.bool kept] 84
 go_enter Tryz.func55,Tryz.ntmps55
 go_upto_region 1 with fail
 obtain⟨B,hB⟩:∃ B,w.heap.size=B:=⟨_,rfl⟩
 generalize w.alloc _=W at *
 rw[hB]at K
 rw[hB]
 obtain⟨U,f,HA⟩:=above W.heap.size W
 have c0:=HA.cell K K.lt 0 _ rfl
 have c1:=HA.cell K K.lt 1 _ rfl
 have c2:=HA.cell K K.lt 2 _ rfl
 have c3:=HA.cell K K.lt 3 _ rfl
 have c4:=HA.cell K K.lt 4 _ rfl
 have c5:=HA.cell K K.lt 5 _ rfl
 have c6:=HA.cell K K.lt 6 _ rfl
 have c7:=HA.cell K K.lt 7 _ rfl
 have c8:=HA.cell K K.lt 8 _ rfl
 have c9:=HA.cell K K.lt 9 _ rfl
 have c10:=HA.cell K K.lt 10 _ rfl
 have c11:=HA.cell K K.lt 11 _ rfl
 have HU:=Lib.hid HA
 obtain⟨u0,hu0⟩:=HA.start
 have hneU:Nonempty U:=⟨u0⟩
 have HE:Hid (∀ u,Below w.heap.size w (f u)):=Lib.hid (fun u=>B0.trans ((HA.below u).mono B0.size))
 have HKW:Hid (∀ u,Blk B #[.string name,.int .i64 y,.int .i64 mo,.int .i64 d,.int .i64 hh,.int .i64 mi,.int .i64 sx,.int .u64 packed,.int .u64 size,.int .u32 sum,.int .u64 pos,.bool kept] 84 (f u)):=Lib.hid (fun u=>K.below (HA.below u))
 clear HA K B0 hB
 rw[hu0]
 clear hu0
 have q1:decide (4294967294<pos)=false:=decide_eq_false (by omega)
 go_wp2_with (first|(go_at_call 49;refine(HG.out _).mono ?_;rintro e w1 ⟨rfl,hb⟩;obtain⟨u1,rfl⟩:=HU.out.next (Nat.le_refl _) hb;clear hb))
 refine wp_region_class (C:=fun w'=>∃ u,w'=f u) (by kernel_rfl) (by kernel_rfl) (HU.out.drew _) ?_
 repeat (go_big_quiet_step (fail))
 refine wpQuiet_nil ?_
 rintro wx ⟨u2,rfl⟩
 go_wp2_with (first|(go_at_call 50;refine(HB.out _).mono ?_;rintro e w1 ⟨rfl,hb⟩;obtain⟨u1,rfl⟩:=HU.out.next (Nat.le_refl _) hb;clear hb))
 obtain⟨W1,hW1⟩:∃ W,W=f u1:=⟨_,rfl⟩
 have hE:=HE.out u1
 have hKW:=HKW.out u1
 rw[← hW1]at hE hKW ⊢
 clear hW1 HU HE HKW HG HB c0 c1 c2 c3 c4 c5 c6 c7 c8 c9 c10 c11
 obtain⟨U,f,hU,hf⟩:=worldsS (MkP W1 (zEs 31 10) [])
 have hne:∃ L X w,MkP W1 (zEs 31 10) [] L X w:=⟨_,fun _=>undef,_,mk_start W1⟩
 have HN:Hid (∀ s u w1,Below (f s u).heap.size (f s u) w1→∃ u',w1=f s u'):=Lib.hid (fun s u w1 hb=>hU s w1 (mk_next (hf s u) hb))
 have c0:∀ s u,(f s u).cell? ⟨B,0,none⟩=some (.string name):=fun s u=>(hKW.under hKW.lt (hf s u).below).cell 0
 have c1:∀ s u,(f s u).cell? ⟨B,1,none⟩=some (.int .i64 y):=fun s u=>(hKW.under hKW.lt (hf s u).below).cell 1
 have c2:∀ s u,(f s u).cell? ⟨B,2,none⟩=some (.int .i64 mo):=fun s u=>(hKW.under hKW.lt (hf s u).below).cell 2
 have c3:∀ s u,(f s u).cell? ⟨B,3,none⟩=some (.int .i64 d):=fun s u=>(hKW.under hKW.lt (hf s u).below).cell 3
 have c4:∀ s u,(f s u).cell? ⟨B,4,none⟩=some (.int .i64 hh):=fun s u=>(hKW.under hKW.lt (hf s u).below).cell 4
 have c5:∀ s u,(f s u).cell? ⟨B,5,none⟩=some (.int .i64 mi):=fun s u=>(hKW.under hKW.lt (hf s u).below).cell 5
 have c6:∀ s u,(f s u).cell? ⟨B,6,none⟩=some (.int .i64 sx):=fun s u=>(hKW.under hKW.lt (hf s u).below).cell 6
 have c7:∀ s u,(f s u).cell? ⟨B,7,none⟩=some (.int .u64 packed):=fun s u=>(hKW.under hKW.lt (hf s u).below).cell 7
 have c8:∀ s u,(f s u).cell? ⟨B,8,none⟩=some (.int .u64 size):=fun s u=>(hKW.under hKW.lt (hf s u).below).cell 8
 have c9:∀ s u,(f s u).cell? ⟨B,9,none⟩=some (.int .u32 sum):=fun s u=>(hKW.under hKW.lt (hf s u).below).cell 9
 have c10:∀ s u,(f s u).cell? ⟨B,10,none⟩=some (.int .u64 pos):=fun s u=>(hKW.under hKW.lt (hf s u).below).cell 10
 have c11:∀ s u,(f s u).cell? ⟨B,11,none⟩=some (.bool kept):=fun s u=>(hKW.under hKW.lt (hf s u).below).cell 11
 have e2:=puI_2
 have e4:=puI_4
 have e8:=puI_8
 have ev:=verS_size
 have hwn:IntKind.u64.wrap (name.size:Int)=(name.size:Int):=by rw[IntKind.wrap_u64];omega
 have hws:IntKind.u64.wrap sum=sum:=by rw[IntKind.wrap_u64];omega
 have HW:=Lib.hid hE
 clear hKW hE
 have z10:=zer_10
 have z0:(⟨#[]⟩:ByteArray).size=0:=rfl
 refine wp_region_all [31] (MkP W1 (zEs 31 10) []) (by kernel_rfl) (by kernel_rfl) (fun _=>undef) (mk_start W1) ?_
 iterate 31
  apply all_quiet hne hU hf (fun L X w h=>mk_still h (by decide) (by decide)) (by decide) rfl (by simp)
  ·intro s X hn K' hK'
   go_big_quiet_op
   first
    | exact hK'
    | (apply Exists.intro
       refine⟨fun _=>?_,?_⟩
       ·first
        | (go_at_call 51;refine(n2_calls _ _ (by omega) (by omega)).mono ?_;rintro e w1 ⟨rfl,hb⟩;exact⟨rfl,HN.out _ _ _ hb⟩)
        | (go_at_call 53;refine(n4_calls _ _ (by omega) (by omega)).mono ?_;rintro e w1 ⟨rfl,hb⟩;exact⟨rfl,HN.out _ _ _ hb⟩)
        | (go_at_call 52;refine(HC.out _).mono ?_;rintro e w1 ⟨rfl,hb⟩;exact⟨rfl,HN.out _ _ _ hb⟩)
       exact hK')
  ·exact fun _ _=>rfl
 refine all_free (by decide) (by simp) (fun e=>by cases e) (fun X L w hL hP hw K' hK=>?_) (by intro X;simp[Act.put];rfl) ?_
 ·have hm:=zmake 10 (by omega) w
  unfold Oper.wp
  simp[execOp,Act.eval,go_sem]at hm ⊢
  rw[hm]
  exact hK _ _ (mk_make (by decide) hw List.mem_cons_self (fun _=>rfl) hL)
 refine all_move (.string (zer 10)) (by decide) (by simp) (fun X L w hL hP hw K' hK=>?_) (by intro X;simp[Act.put];rfl) ?_
 ·have h5:L 31=true:=pre_mem hP 31 (by decide)
  obtain⟨B5,hx, -, -,hb5⟩:=mk_at hw List.mem_cons_self h5
  have hcv:=zconv 10 rfl B5 w hb5
  have hx2:X 31= .slice (some ⟨B5,0,none⟩) 10 10:=hx
  have h7:=hK w (mk_still hw (by decide) (by decide))
  simp[Act.put,hx2]at h7
  unfold Oper.wp
  simp[execOp,Act.eval,hx2,hcv,go_sem]
  exact h7
 repeat
  apply all_quiet hne hU hf (fun L X w h=>mk_still h (by decide) (by decide)) (by decide) rfl (by simp)
  ·intro s X hn K' hK'
   go_big_quiet_op
   first
    | exact hK'
    | (apply Exists.intro
       refine⟨fun _=>?_,?_⟩
       ·first
        | (go_at_call 51;refine(n2_calls _ _ (by omega) (by omega)).mono ?_;rintro e w1 ⟨rfl,hb⟩;exact⟨rfl,HN.out _ _ _ hb⟩)
        | (go_at_call 53;refine(n4_calls _ _ (by omega) (by omega)).mono ?_;rintro e w1 ⟨rfl,hb⟩;exact⟨rfl,HN.out _ _ _ hb⟩)
        | (go_at_call 52;refine(HC.out _).mono ?_;rintro e w1 ⟨rfl,hb⟩;exact⟨rfl,HN.out _ _ _ hb⟩)
       exact hK')
  ·exact fun _ _=>rfl
 refine all_nil ?_
 intro X L wx hall hw
 have hbw:=HW.out.trans (hw.below.mono HW.out.size)
 go_wp2
 go_ret
 exact⟨by rw[H3.out];simp[empR,empz];rfl,hbw⟩
end Go.Proofs.YtgiogemkomgkhaaGreatDoor.Zp
