/-
  Heads: the local header and the descriptor. (Printed by mkzplocal.py.)
-/
import Derived.Test.YtgiogemkomgkhaaGreatDoorKZpB
set_option linter.unusedVariables false
set_option linter.unusedSimpArgs false
namespace Go.Proofs.YtgiogemkomgkhaaGreatDoor.Zp
open Go.RowKit Go.Shelf YtgiogemkomgkhaaGreatDoor.Nm
def zer (n:Nat):ByteArray:=⟨(Lib.repeatL (⟨#[0]⟩:ByteArray).data.toList n).toArray⟩
theorem rep_calls (n:Nat) (w:World) (hn:n≤100):Calls Tryz.prog 81 #[.string ⟨#[0]⟩,.int .i64 n] w fun e w'=>e= .returned (.string (zer n))∧Below w.heap.size w w' :=
 Tryz.strings_Repeat ⟨#[0]⟩ n w (by omega) (by show 1*n≤_;omega)
theorem zer_10:(zer 10).size=10:=rfl
theorem zer_12:(zer 12).size=12:=rfl
theorem zer_16:(zer 16).size=16:=rfl
def locS (h:Hd):ByteArray :=
 if goodH h then
  if bigH h then⟨#[80,75,3,4]⟩++verS true++comS h++puI 0 4++⟨#[255,255,255,255]⟩++⟨#[255,255,255,255]⟩++puI h.name.size 2++puI 20 2++h.name++puI 1 2++puI 16 2++zer 16
  else⟨#[80,75,3,4]⟩++verS false++comS h++zer 12++puI h.name.size 2++puI 0 2++h.name
 else⟨#[]⟩
def desS (h:Hd):ByteArray :=
 if goodH h && !h.kept then⟨#[80,75,7,8]⟩++puI h.sum 4++puI h.packed (if bigH h then 8 else 4)++puI h.size (if bigH h then 8 else 4)
 else⟨#[]⟩
theorem goodH_parts {h:Hd} (hg:goodH h=true):checkB h.name=true∧tgood h.t=true∧h.packed<4611686018427387904∧h.size<4611686018427387904∧h.pos<4611686018427387904∧(h.kept=true→h.packed=0∧h.size=0):=by
 unfold goodH at hg
 simp only[Bool.and_eq_true,Bool.or_eq_true,decide_eq_true_eq,Bool.not_eq_true']at hg
 obtain⟨⟨⟨⟨⟨a,b⟩,c⟩,d⟩,e⟩,f⟩:=hg
 refine⟨a,b,c,d,e,fun hk=>?_⟩
 rcases f with h1|h1
 ·rw[hk]at h1;cases h1
 ·exact h1
set_option maxHeartbeats 2000000 in
set_option maxRecDepth 100000 in
theorem local_calls (h:Hd) (w:World) (ho:h.ok) (hT:Tabs w):Calls Tryz.prog 59 #[h.val] w fun e w'=>e= .returned (.string (locS h))∧Below w.heap.size w w':=by
 obtain⟨R,HR⟩:∃ R,R=locS h:=⟨_,rfl⟩
 rw[← HR]
 unfold locS at HR
 obtain⟨hn,hp,hs,hu,ha⟩:=ho
 obtain⟨name,⟨y,mo,d,hh,mi,s⟩,packed,size,sum,pos,kept⟩:=h
 simp only at hn hp hs hu ha HR
 simp only[Hd.val]
 have HG:Hid (∀ W,Tabs W→Calls Tryz.prog 61 #[.agg #[.string name,.int .i64 y,.int .i64 mo,.int .i64 d,.int .i64 hh,.int .i64 mi,.int .i64 s,.int .u64 packed,.int .u64 size,.int .u32 sum,.int .u64 pos,.bool kept]] W fun e w'=>e= .returned (.bool (goodH ⟨name,⟨y,mo,d,hh,mi,s⟩,packed,size,sum,pos,kept⟩))∧Below W.heap.size W w'):=Lib.hid (fun W hT=>hgood_calls ⟨name,⟨y,mo,d,hh,mi,s⟩,packed,size,sum,pos,kept⟩ W hn hT)
 have HB:Hid (∀ W,Calls Tryz.prog 78 #[.agg #[.string name,.int .i64 y,.int .i64 mo,.int .i64 d,.int .i64 hh,.int .i64 mi,.int .i64 s,.int .u64 packed,.int .u64 size,.int .u32 sum,.int .u64 pos,.bool kept]] W fun e w'=>e= .returned (.bool (bigH ⟨name,⟨y,mo,d,hh,mi,s⟩,packed,size,sum,pos,kept⟩))∧Below W.heap.size W w'):=Lib.hid (fun W=>big_calls ⟨name,⟨y,mo,d,hh,mi,s⟩,packed,size,sum,pos,kept⟩ W)
 have B0:=Lib.hid ((Below.refl w.heap.size w).alloc (Nat.le_refl _) (.cells #[.string name,.int .i64 y,.int .i64 mo,.int .i64 d,.int .i64 hh,.int .i64 mi,.int .i64 s,.int .u64 packed,.int .u64 size,.int .u32 sum,.int .u64 pos,.bool kept] 121))
 have K:=Blk.new w #[.string name,.int .i64 y,.int .i64 mo,.int .i64 d,.int .i64 hh,.int .i64 mi,.int .i64 s,.int .u64 packed,.int .u64 size,.int .u32 sum,.int .u64 pos,.bool kept] 121
 have hT0:=hT.below B0.out
 go_enter Tryz.func59,Tryz.ntmps59
 go_wp2_with fail
 generalize w.alloc (.cells #[.string name,.int .i64 y,.int .i64 mo,.int .i64 d,.int .i64 hh,.int .i64 mi,.int .i64 s,.int .u64 packed,.int .u64 size,.int .u32 sum,.int .u64 pos,.bool kept] 121)=W at *
 obtain⟨U,f,HA⟩:=above W.heap.size W
 have c0:=HA.cell K K.lt 0 (.string name) rfl
 have c1:=HA.cell K K.lt 1 (.int .i64 y) rfl
 have c2:=HA.cell K K.lt 2 (.int .i64 mo) rfl
 have c3:=HA.cell K K.lt 3 (.int .i64 d) rfl
 have c4:=HA.cell K K.lt 4 (.int .i64 hh) rfl
 have c5:=HA.cell K K.lt 5 (.int .i64 mi) rfl
 have c6:=HA.cell K K.lt 6 (.int .i64 s) rfl
 have c7:=HA.cell K K.lt 7 (.int .u64 packed) rfl
 have c8:=HA.cell K K.lt 8 (.int .u64 size) rfl
 have c9:=HA.cell K K.lt 9 (.int .u32 sum) rfl
 have c10:=HA.cell K K.lt 10 (.int .u64 pos) rfl
 have c11:=HA.cell K K.lt 11 (.bool kept) rfl
 have HU:=Lib.hid HA
 have HT:Hid (∀ u,Tabs (f u)):=Lib.hid (fun u=>hT0.below (HA.below u))
 obtain⟨u0,hu0⟩:=HA.start
 have hne:Nonempty U:=⟨u0⟩
 have HE:Hid (∀ u,Below w.heap.size w (f u)):=Lib.hid (fun u=>B0.out.trans ((HA.below u).mono B0.out.size))
 clear HA K hT hT0
 rw[hu0]at B0 ⊢
 clear hu0
 cases hg:goodH ⟨name,⟨y,mo,d,hh,mi,s⟩,packed,size,sum,pos,kept⟩ with
 | false =>
  rw[hg]at HG
  rw[hg,if_neg Bool.false_ne_true]at HR
  have H3:=Lib.hid HR
  clear HR hg
  go_wp2_with (first|(go_at_call 61;refine(HG.out _ (HT.out _)).mono ?_;rintro e w1 ⟨rfl,hb⟩;obtain⟨u1,rfl⟩:=HU.out.next (Nat.le_refl _) hb;clear hb))
  go_ret
  exact⟨by rw[H3.out];rfl,HE.out _⟩
 | true =>
  have hg2:=(goodH_parts hg).2.1
  have HC:Hid (∀ W,Calls Tryz.prog 79 #[.agg #[.string name,.int .i64 y,.int .i64 mo,.int .i64 d,.int .i64 hh,.int .i64 mi,.int .i64 s,.int .u64 packed,.int .u64 size,.int .u32 sum,.int .u64 pos,.bool kept]] W fun e w'=>e= .returned (.string (comS ⟨name,⟨y,mo,d,hh,mi,s⟩,packed,size,sum,pos,kept⟩))∧Below W.heap.size W w'):=Lib.hid (fun W=>common_calls ⟨name,⟨y,mo,d,hh,mi,s⟩,packed,size,sum,pos,kept⟩ W hn hg2)
  rw[hg]at HG
  rw[hg,if_pos rfl]at HR
  have hcs:=comS_size ⟨name,⟨y,mo,d,hh,mi,s⟩,packed,size,sum,pos,kept⟩
  generalize comS ⟨name,⟨y,mo,d,hh,mi,s⟩,packed,size,sum,pos,kept⟩=CS at *
  have HR16:Hid (∀ W,Calls Tryz.prog 81 #[.string ⟨#[0]⟩,.int .i64 16] W fun e w'=>e= .returned (.string (zer 16))∧Below W.heap.size W w'):=Lib.hid (fun W=>rep_calls 16 W (by omega))
  have HR12:Hid (∀ W,Calls Tryz.prog 81 #[.string ⟨#[0]⟩,.int .i64 12] W fun e w'=>e= .returned (.string (zer 12))∧Below W.heap.size W w'):=Lib.hid (fun W=>rep_calls 12 W (by omega))
  have e2:=puI_2
  have e4:=puI_4
  have ev:=verS_size
  have z12:=zer_12
  have z16:=zer_16
  have hw:IntKind.u64.wrap (name.size:Int)=(name.size:Int):=by rw[IntKind.wrap_u64];omega
  clear hg2
  cases hb:bigH ⟨name,⟨y,mo,d,hh,mi,s⟩,packed,size,sum,pos,kept⟩ with
  | true =>
   rw[hb]at HB
   rw[hb,if_pos rfl]at HR
   have H3:=Lib.hid HR
   clear HR hg hb
   go_wp2_with (first|(go_at_call 61;refine(HG.out _ (HT.out _)).mono ?_;rintro e w1 ⟨rfl,hb⟩;obtain⟨u1,rfl⟩:=HU.out.next (Nat.le_refl _) hb;clear hb))
   refine wp_region_class (C:=fun w'=>∃ u,w'=f u) (by kernel_rfl) (by kernel_rfl) (HU.out.drew _) ?_
   repeat (go_big_quiet_step (first|(go_at_call 78;refine(HB.out _).mono ?_;rintro e w1 ⟨rfl,hb⟩;exact⟨rfl,HU.out.next (Nat.le_refl _) hb⟩)|(go_at_call 77;refine(version_calls _ _).mono ?_;rintro e w1 ⟨rfl,hb⟩;exact⟨rfl,HU.out.next (Nat.le_refl _) hb⟩)|(go_at_call 79;refine(HC.out _).mono ?_;rintro e w1 ⟨rfl,hb⟩;exact⟨rfl,HU.out.next (Nat.le_refl _) hb⟩)))
   refine wpQuiet_nil ?_
   rintro wx ⟨u2,rfl⟩
   go_wp2_with (first|(go_at_call 78;refine(HB.out _).mono ?_;rintro e w1 ⟨rfl,hb⟩;obtain⟨u1,rfl⟩:=HU.out.next (Nat.le_refl _) hb;clear hb))
   refine wp_region_class (C:=fun w'=>∃ u,w'=f u) (by kernel_rfl) (by kernel_rfl) (HU.out.drew _) ?_
   repeat (go_big_quiet_step (first|(go_at_call 80;refine(put_any _ _ _ (by omega) (by omega) (by omega) (by omega)).mono ?_;rintro e w1 ⟨rfl,hb⟩;exact⟨rfl,HU.out.next (Nat.le_refl _) hb⟩)|(go_at_call 81;refine(HR16.out _).mono ?_;rintro e w1 ⟨rfl,hb⟩;exact⟨rfl,HU.out.next (Nat.le_refl _) hb⟩)))
   refine wpQuiet_nil ?_
   rintro wx ⟨u2,rfl⟩
   go_wp2
   go_ret
   exact⟨by rw[H3.out];rfl,HE.out _⟩
  | false =>
   rw[hb]at HB
   rw[hb,if_neg Bool.false_ne_true]at HR
   have H3:=Lib.hid HR
   clear HR hg hb
   go_wp2_with (first|(go_at_call 61;refine(HG.out _ (HT.out _)).mono ?_;rintro e w1 ⟨rfl,hb⟩;obtain⟨u1,rfl⟩:=HU.out.next (Nat.le_refl _) hb;clear hb))
   refine wp_region_class (C:=fun w'=>∃ u,w'=f u) (by kernel_rfl) (by kernel_rfl) (HU.out.drew _) ?_
   repeat (go_big_quiet_step (first|(go_at_call 78;refine(HB.out _).mono ?_;rintro e w1 ⟨rfl,hb⟩;exact⟨rfl,HU.out.next (Nat.le_refl _) hb⟩)|(go_at_call 77;refine(version_calls _ _).mono ?_;rintro e w1 ⟨rfl,hb⟩;exact⟨rfl,HU.out.next (Nat.le_refl _) hb⟩)|(go_at_call 79;refine(HC.out _).mono ?_;rintro e w1 ⟨rfl,hb⟩;exact⟨rfl,HU.out.next (Nat.le_refl _) hb⟩)))
   refine wpQuiet_nil ?_
   rintro wx ⟨u2,rfl⟩
   go_wp2_with (first|(go_at_call 78;refine(HB.out _).mono ?_;rintro e w1 ⟨rfl,hb⟩;obtain⟨u1,rfl⟩:=HU.out.next (Nat.le_refl _) hb;clear hb))
   refine wp_region_class (C:=fun w'=>∃ u,w'=f u) (by kernel_rfl) (by kernel_rfl) (HU.out.drew _) ?_
   repeat (go_big_quiet_step (first|(go_at_call 80;refine(put_any _ _ _ (by omega) (by omega) (by omega) (by omega)).mono ?_;rintro e w1 ⟨rfl,hb⟩;exact⟨rfl,HU.out.next (Nat.le_refl _) hb⟩)|(go_at_call 81;refine(HR12.out _).mono ?_;rintro e w1 ⟨rfl,hb⟩;exact⟨rfl,HU.out.next (Nat.le_refl _) hb⟩)))
   refine wpQuiet_nil ?_
   rintro wx ⟨u2,rfl⟩
   go_wp2
   go_ret
   exact⟨by rw[H3.out];rfl,HE.out _⟩
set_option maxHeartbeats 2000000 in
set_option maxRecDepth 100000 in
theorem descr_calls (h:Hd) (w:World) (ho:h.ok) (hT:Tabs w):Calls Tryz.prog 60 #[h.val] w fun e w'=>e= .returned (.string (desS h))∧Below w.heap.size w w':=by
 obtain⟨R,HR⟩:∃ R,R=desS h:=⟨_,rfl⟩
 rw[← HR]
 unfold desS at HR
 obtain⟨hn,hp,hs,hu,ha⟩:=ho
 obtain⟨name,⟨y,mo,d,hh,mi,s⟩,packed,size,sum,pos,kept⟩:=h
 simp only at hn hp hs hu ha HR
 simp only[Hd.val]
 have HG:Hid (∀ W,Tabs W→Calls Tryz.prog 61 #[.agg #[.string name,.int .i64 y,.int .i64 mo,.int .i64 d,.int .i64 hh,.int .i64 mi,.int .i64 s,.int .u64 packed,.int .u64 size,.int .u32 sum,.int .u64 pos,.bool kept]] W fun e w'=>e= .returned (.bool (goodH ⟨name,⟨y,mo,d,hh,mi,s⟩,packed,size,sum,pos,kept⟩))∧Below W.heap.size W w'):=Lib.hid (fun W hT=>hgood_calls ⟨name,⟨y,mo,d,hh,mi,s⟩,packed,size,sum,pos,kept⟩ W hn hT)
 have HB:Hid (∀ W,Calls Tryz.prog 78 #[.agg #[.string name,.int .i64 y,.int .i64 mo,.int .i64 d,.int .i64 hh,.int .i64 mi,.int .i64 s,.int .u64 packed,.int .u64 size,.int .u32 sum,.int .u64 pos,.bool kept]] W fun e w'=>e= .returned (.bool (bigH ⟨name,⟨y,mo,d,hh,mi,s⟩,packed,size,sum,pos,kept⟩))∧Below W.heap.size W w'):=Lib.hid (fun W=>big_calls ⟨name,⟨y,mo,d,hh,mi,s⟩,packed,size,sum,pos,kept⟩ W)
 have B0:=Lib.hid ((Below.refl w.heap.size w).alloc (Nat.le_refl _) (.cells #[.string name,.int .i64 y,.int .i64 mo,.int .i64 d,.int .i64 hh,.int .i64 mi,.int .i64 s,.int .u64 packed,.int .u64 size,.int .u32 sum,.int .u64 pos,.bool kept] 121))
 have K:=Blk.new w #[.string name,.int .i64 y,.int .i64 mo,.int .i64 d,.int .i64 hh,.int .i64 mi,.int .i64 s,.int .u64 packed,.int .u64 size,.int .u32 sum,.int .u64 pos,.bool kept] 121
 have hT0:=hT.below B0.out
 go_enter Tryz.func60,Tryz.ntmps60
 go_wp2_with fail
 generalize w.alloc (.cells #[.string name,.int .i64 y,.int .i64 mo,.int .i64 d,.int .i64 hh,.int .i64 mi,.int .i64 s,.int .u64 packed,.int .u64 size,.int .u32 sum,.int .u64 pos,.bool kept] 121)=W at *
 obtain⟨U,f,HA⟩:=above W.heap.size W
 have c0:=HA.cell K K.lt 0 (.string name) rfl
 have c1:=HA.cell K K.lt 1 (.int .i64 y) rfl
 have c2:=HA.cell K K.lt 2 (.int .i64 mo) rfl
 have c3:=HA.cell K K.lt 3 (.int .i64 d) rfl
 have c4:=HA.cell K K.lt 4 (.int .i64 hh) rfl
 have c5:=HA.cell K K.lt 5 (.int .i64 mi) rfl
 have c6:=HA.cell K K.lt 6 (.int .i64 s) rfl
 have c7:=HA.cell K K.lt 7 (.int .u64 packed) rfl
 have c8:=HA.cell K K.lt 8 (.int .u64 size) rfl
 have c9:=HA.cell K K.lt 9 (.int .u32 sum) rfl
 have c10:=HA.cell K K.lt 10 (.int .u64 pos) rfl
 have c11:=HA.cell K K.lt 11 (.bool kept) rfl
 have HU:=Lib.hid HA
 have HT:Hid (∀ u,Tabs (f u)):=Lib.hid (fun u=>hT0.below (HA.below u))
 obtain⟨u0,hu0⟩:=HA.start
 have hne:Nonempty U:=⟨u0⟩
 have HE:Hid (∀ u,Below w.heap.size w (f u)):=Lib.hid (fun u=>B0.out.trans ((HA.below u).mono B0.out.size))
 clear HA K hT hT0
 rw[hu0]at B0 ⊢
 clear hu0
 have e4:=puI_4
 have e8:=puI_8
 have hw:IntKind.u64.wrap sum=sum:=by rw[IntKind.wrap_u64];omega
 cases hg:goodH ⟨name,⟨y,mo,d,hh,mi,s⟩,packed,size,sum,pos,kept⟩ with
 | false =>
  rw[hg]at HG
  rw[hg,Bool.false_and,if_neg Bool.false_ne_true]at HR
  have H3:=Lib.hid HR
  clear HR hg
  go_wp2_with (first|(go_at_call 61;refine(HG.out _ (HT.out _)).mono ?_;rintro e w1 ⟨rfl,hb⟩;obtain⟨u1,rfl⟩:=HU.out.next (Nat.le_refl _) hb;clear hb))
  go_ret
  exact⟨by rw[H3.out];rfl,HE.out _⟩
 | true =>
  cases kept with
  | true =>
   rw[hg]at HG
   rw[Bool.not_true,Bool.and_false,if_neg Bool.false_ne_true]at HR
   have H3:=Lib.hid HR
   clear HR hg
   go_wp2_with (first|(go_at_call 61;refine(HG.out _ (HT.out _)).mono ?_;rintro e w1 ⟨rfl,hb⟩;obtain⟨u1,rfl⟩:=HU.out.next (Nat.le_refl _) hb;clear hb))
   go_ret
   exact⟨by rw[H3.out];rfl,HE.out _⟩
  | false =>
   rw[hg]at HG
   rw[hg,Bool.not_false,Bool.and_true,if_pos rfl]at HR
   cases hb:bigH ⟨name,⟨y,mo,d,hh,mi,s⟩,packed,size,sum,pos,false⟩ with
   | true =>
    rw[hb]at HB
    rw[hb]at HR
    have H3:=Lib.hid HR
    clear HR hg hb
    go_wp2_with (first|(go_at_call 61;refine(HG.out _ (HT.out _)).mono ?_;rintro e w1 ⟨rfl,hb⟩;obtain⟨u1,rfl⟩:=HU.out.next (Nat.le_refl _) hb;clear hb)|(go_at_call 78;refine(HB.out _).mono ?_;rintro e w1 ⟨rfl,hb⟩;obtain⟨u1,rfl⟩:=HU.out.next (Nat.le_refl _) hb;clear hb))
    refine wp_region_class (C:=fun w'=>∃ u,w'=f u) (by kernel_rfl) (by kernel_rfl) (HU.out.drew _) ?_
    repeat (go_big_quiet_step (first|(go_at_call 80;refine(put_any _ _ _ (by omega) (by omega) (by omega) (by omega)).mono ?_;rintro e w1 ⟨rfl,hb⟩;exact⟨rfl,HU.out.next (Nat.le_refl _) hb⟩)))
    refine wpQuiet_nil ?_
    rintro wx ⟨u2,rfl⟩
    go_wp2
    go_ret
    exact⟨by rw[H3.out];rfl,HE.out _⟩
   | false =>
    rw[hb]at HB
    rw[hb]at HR
    have H3:=Lib.hid HR
    clear HR hg hb
    go_wp2_with (first|(go_at_call 61;refine(HG.out _ (HT.out _)).mono ?_;rintro e w1 ⟨rfl,hb⟩;obtain⟨u1,rfl⟩:=HU.out.next (Nat.le_refl _) hb;clear hb)|(go_at_call 78;refine(HB.out _).mono ?_;rintro e w1 ⟨rfl,hb⟩;obtain⟨u1,rfl⟩:=HU.out.next (Nat.le_refl _) hb;clear hb))
    refine wp_region_class (C:=fun w'=>∃ u,w'=f u) (by kernel_rfl) (by kernel_rfl) (HU.out.drew _) ?_
    repeat (go_big_quiet_step (first|(go_at_call 80;refine(put_any _ _ _ (by omega) (by omega) (by omega) (by omega)).mono ?_;rintro e w1 ⟨rfl,hb⟩;exact⟨rfl,HU.out.next (Nat.le_refl _) hb⟩)))
    refine wpQuiet_nil ?_
    rintro wx ⟨u2,rfl⟩
    go_wp2
    go_ret
    exact⟨by rw[H3.out];rfl,HE.out _⟩
end Go.Proofs.YtgiogemkomgkhaaGreatDoor.Zp
