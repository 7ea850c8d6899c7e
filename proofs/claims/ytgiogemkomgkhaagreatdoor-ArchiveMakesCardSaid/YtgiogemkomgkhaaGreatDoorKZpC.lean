/-
  How many bytes a head's headers have, and where its name stands: plain.
-/
import Derived.Test.YtgiogemkomgkhaaGreatDoorKZpLocal
set_option linter.unusedVariables false
set_option linter.unusedSimpArgs false
namespace Go.Proofs.YtgiogemkomgkhaaGreatDoor.Zp
open Go.RowKit Go.Shelf YtgiogemkomgkhaaGreatDoor.Nm
def farH (h:Hd):Bool:=decide (4294967294<h.pos)
def ext0 (size packed pos:Int) (big far:Bool):ByteArray :=
 (if big then puI size 8++puI packed 8 else⟨#[]⟩)++(if far then puI pos 8 else⟨#[]⟩)
def extS (size packed pos:Int) (big far:Bool):ByteArray :=
 if big || far then puI 1 2++puI (ext0 size packed pos big far).size 2++ext0 size packed pos big far else⟨#[]⟩
def cenS (h:Hd):ByteArray :=
 if goodH h then
  ⟨#[80,75,1,2]⟩++verS (bigH h || farH h)++verS (bigH h || farH h)++comS h++puI h.sum 4++narS h.packed (bigH h)++narS h.size (bigH h)++puI h.name.size 2++puI (extS h.size h.packed h.pos (bigH h) (farH h)).size 2++zer 10++narS h.pos (farH h)++h.name++extS h.size h.packed h.pos (bigH h) (farH h)
 else⟨#[]⟩
theorem empz:(⟨#[]⟩:ByteArray).size=0:=rfl
theorem empL (b:ByteArray):(⟨#[]⟩:ByteArray)++b=b:=by
 apply ByteArray.ext
 rw[ByteArray.data_append]
 simp
theorem empR (b:ByteArray):b++(⟨#[]⟩:ByteArray)=b:=by
 apply ByteArray.ext
 rw[ByteArray.data_append]
 simp
theorem isE (b:ByteArray) (h:0<b.size):b.toList.isEmpty=false:=by
 rw[Lib.toList_data]
 cases e:b.data.toList with
 | nil =>
  have:b.data.toList.length=b.size:=rfl
  rw[e]at this
  simp only[List.length_nil]at this
  omega
 | cons x l=>rfl
theorem ext0_size (a b c:Int) (big far:Bool):(ext0 a b c big far).size=(if big then 16 else 0)+(if far then 8 else 0):=by
 unfold ext0
 cases big<;>cases far<;>simp[ByteArray.size_append,puI_8]<;>rfl
set_option maxHeartbeats 4000000 in
set_option maxRecDepth 100000 in
theorem central_calls (h:Hd) (w:World) (ho:h.ok) (hT:Tabs w):Calls Tryz.prog 62 #[h.val] w fun e w'=>e= .returned (.string (cenS h))∧Below w.heap.size w w':=by
 obtain⟨R,HR⟩:∃ R,R=cenS h:=⟨_,rfl⟩
 rw[← HR]
 unfold cenS at HR
 obtain⟨hn,hp,hs,hu,ha⟩:=ho
 obtain⟨name,⟨y,mo,d,hh,mi,s⟩,packed,size,sum,pos,kept⟩:=h
 simp only at hn hp hs hu ha HR
 simp only[Hd.val]
 have HG:Hid (∀ W,Tabs W→Calls Tryz.prog 61 #[.agg #[.string name,.int .i64 y,.int .i64 mo,.int .i64 d,.int .i64 hh,.int .i64 mi,.int .i64 s,.int .u64 packed,.int .u64 size,.int .u32 sum,.int .u64 pos,.bool kept]] W fun e w'=>e= .returned (.bool (goodH ⟨name,⟨y,mo,d,hh,mi,s⟩,packed,size,sum,pos,kept⟩))∧Below W.heap.size W w'):=Lib.hid (fun W hT=>hgood_calls ⟨name,⟨y,mo,d,hh,mi,s⟩,packed,size,sum,pos,kept⟩ W hn hT)
 have HB:Hid (∀ W,Calls Tryz.prog 78 #[.agg #[.string name,.int .i64 y,.int .i64 mo,.int .i64 d,.int .i64 hh,.int .i64 mi,.int .i64 s,.int .u64 packed,.int .u64 size,.int .u32 sum,.int .u64 pos,.bool kept]] W fun e w'=>e= .returned (.bool (bigH ⟨name,⟨y,mo,d,hh,mi,s⟩,packed,size,sum,pos,kept⟩))∧Below W.heap.size W w'):=Lib.hid (fun W=>big_calls ⟨name,⟨y,mo,d,hh,mi,s⟩,packed,size,sum,pos,kept⟩ W)
 have B0:=Lib.hid ((Below.refl w.heap.size w).alloc (Nat.le_refl _) (.cells #[.string name,.int .i64 y,.int .i64 mo,.int .i64 d,.int .i64 hh,.int .i64 mi,.int .i64 s,.int .u64 packed,.int .u64 size,.int .u32 sum,.int .u64 pos,.bool kept] 121))
 have K:=Blk.new w #[.string name,.int .i64 y,.int .i64 mo,.int .i64 d,.int .i64 hh,.int .i64 mi,.int .i64 s,.int .u64 packed,.int .u64 size,.int .u32 sum,.int .u64 pos,.bool kept] 121
 have hT0:=hT.below B0.out
 go_enter Tryz.func62,Tryz.ntmps62
 go_wp2_with fail
 generalize w.alloc (.cells #[.string name,.int .i64 y,.int .i64 mo,.int .i64 d,.int .i64 hh,.int .i64 mi,.int .i64 s,.int .u64 packed,.int .u64 size,.int .u32 sum,.int .u64 pos,.bool kept] 121)=W at *
 obtain⟨U,f,HA⟩:=above W.heap.size W
 have c0:=HA.cell K K.lt 0 (.string name) rfl
 have c1:=HA.cell K K.lt 1 (.int .i64 y) rfl
 have c2:=HA.cell K K.lt 2 (.int .i64 mo) rfl
 have c3:=HA.cell K K.lt 3 (.int .i64 d) rfl
 have c4:=HA.cell K K.lt 4 (.int .i64 hh) rfl
 have c5:=HA.cell K K.lt 5 (.int .i64 mi) rfl
 have c6:=HA.cell K K.lt 6 (.int .i64 s) rfl
 have c7:=HA.cell K K.lt 7 (.int .u64 packed) rfl
 have c8:=HA.cell K K.lt 8 (.int .u64 size) rfl
 have c9:=HA.cell K K.lt 9 (.int .u32 sum) rfl
 have c10:=HA.cell K K.lt 10 (.int .u64 pos) rfl
 have c11:=HA.cell K K.lt 11 (.bool kept) rfl
 have HU:=Lib.hid HA
 have HT:Hid (∀ u,Tabs (f u)):=Lib.hid (fun u=>hT0.below (HA.below u))
 obtain⟨u0,hu0⟩:=HA.start
 have hne:Nonempty U:=⟨u0⟩
 have HE:Hid (∀ u,Below w.heap.size w (f u)):=Lib.hid (fun u=>B0.out.trans ((HA.below u).mono B0.out.size))
 clear HA K hT hT0
 rw[hu0]at B0 ⊢
 clear hu0
 cases hg:goodH ⟨name,⟨y,mo,d,hh,mi,s⟩,packed,size,sum,pos,kept⟩ with
 | false =>
  rw[hg]at HG
  rw[hg,if_neg Bool.false_ne_true]at HR
  have H3:=Lib.hid HR
  clear HR hg
  go_wp2_with (first|(go_at_call 61;refine(HG.out _ (HT.out _)).mono ?_;rintro e w1 ⟨rfl,hb⟩;obtain⟨u1,rfl⟩:=HU.out.next (Nat.le_refl _) hb;clear hb))
  go_ret
  exact⟨by rw[H3.out];rfl,HE.out _⟩
 | true =>
  have hg2:=(goodH_parts hg).2.1
  have HC:Hid (∀ W,Calls Tryz.prog 79 #[.agg #[.string name,.int .i64 y,.int .i64 mo,.int .i64 d,.int .i64 hh,.int .i64 mi,.int .i64 s,.int .u64 packed,.int .u64 size,.int .u32 sum,.int .u64 pos,.bool kept]] W fun e w'=>e= .returned (.string (comS ⟨name,⟨y,mo,d,hh,mi,s⟩,packed,size,sum,pos,kept⟩))∧Below W.heap.size W w'):=Lib.hid (fun W=>common_calls ⟨name,⟨y,mo,d,hh,mi,s⟩,packed,size,sum,pos,kept⟩ W hn hg2)
  rw[hg]at HG
  rw[hg,if_pos rfl]at HR
  have hcs:=comS_size ⟨name,⟨y,mo,d,hh,mi,s⟩,packed,size,sum,pos,kept⟩
  generalize comS ⟨name,⟨y,mo,d,hh,mi,s⟩,packed,size,sum,pos,kept⟩=CS at *
  have HR10:Hid (∀ W,Calls Tryz.prog 81 #[.string ⟨#[0]⟩,.int .i64 10] W fun e w'=>e= .returned (.string (zer 10))∧Below W.heap.size W w'):=Lib.hid (fun W=>rep_calls 10 W (by omega))
  have e2:=puI_2
  have e4:=puI_4
  have e8:=puI_8
  have ev:=verS_size
  have en:=narS_size
  have z10:=zer_10
  have hw:IntKind.u64.wrap (name.size:Int)=(name.size:Int):=by rw[IntKind.wrap_u64];omega
  have hw2:IntKind.u64.wrap sum=sum:=by rw[IntKind.wrap_u64];omega
  clear hg2
  obtain⟨big,hb⟩:∃ b,bigH ⟨name,⟨y,mo,d,hh,mi,s⟩,packed,size,sum,pos,kept⟩=b:=⟨_,rfl⟩
  obtain⟨far,hf⟩:∃ b,farH ⟨name,⟨y,mo,d,hh,mi,s⟩,packed,size,sum,pos,kept⟩=b:=⟨_,rfl⟩
  have hf2:decide (4294967294<pos)=far:=hf
  rw[hb]at HB
  rw[hb,hf]at HR
  have n1:(⟨#[]⟩++puI pos 8:ByteArray).toList.isEmpty=false:=isE _ (by rw[ByteArray.size_append,e8];omega)
  have n2:(⟨#[]⟩++(puI size 8++puI packed 8):ByteArray).toList.isEmpty=false:=isE _ (by rw[ByteArray.size_append,ByteArray.size_append,e8];omega)
  have n3:(⟨#[]⟩++(puI size 8++puI packed 8)++puI pos 8:ByteArray).toList.isEmpty=false:=isE _ (by rw[ByteArray.size_append,ByteArray.size_append,ByteArray.size_append,e8];omega)
  clear hf hb hg
  cases big with
  | false =>
   cases far with
   | false =>
    have H3:=Lib.hid HR
    clear HR
    go_wp2_with (first|(go_at_call 61;refine(HG.out _ (HT.out _)).mono ?_;rintro e w1 ⟨rfl,hb⟩;obtain⟨u1,rfl⟩:=HU.out.next (Nat.le_refl _) hb;clear hb)|(go_at_call 78;refine(HB.out _).mono ?_;rintro e w1 ⟨rfl,hb⟩;obtain⟨u1,rfl⟩:=HU.out.next (Nat.le_refl _) hb;clear hb)|(go_at_call 77;refine(version_calls _ _).mono ?_;rintro e w1 ⟨rfl,hb⟩;obtain⟨u1,rfl⟩:=HU.out.next (Nat.le_refl _) hb;clear hb)|(go_at_call 80;refine(put_any _ _ _ (by omega) (by omega) (by omega) (by omega)).mono ?_;rintro e w1 ⟨rfl,hb⟩;obtain⟨u1,rfl⟩:=HU.out.next (Nat.le_refl _) hb;clear hb))
    refine wp_region_class (C:=fun w'=>∃ u,w'=f u) (by kernel_rfl) (by kernel_rfl) (HU.out.drew _) ?_
    repeat (go_big_quiet_step (first|(go_at_call 79;refine(HC.out _).mono ?_;rintro e w1 ⟨rfl,hb⟩;exact⟨rfl,HU.out.next (Nat.le_refl _) hb⟩)|(go_at_call 80;refine(put_any _ _ _ (by omega) (by omega) (by omega) (by omega)).mono ?_;rintro e w1 ⟨rfl,hb⟩;exact⟨rfl,HU.out.next (Nat.le_refl _) hb⟩)|(go_at_call 82;refine(narrow_calls _ _ _ (by omega) (by omega)).mono ?_;rintro e w1 ⟨rfl,hb⟩;exact⟨rfl,HU.out.next (Nat.le_refl _) hb⟩)|(go_at_call 78;refine(HB.out _).mono ?_;rintro e w1 ⟨rfl,hb⟩;exact⟨rfl,HU.out.next (Nat.le_refl _) hb⟩)|(go_at_call 81;refine(HR10.out _).mono ?_;rintro e w1 ⟨rfl,hb⟩;exact⟨rfl,HU.out.next (Nat.le_refl _) hb⟩)))
    refine wpQuiet_nil ?_
    rintro wx ⟨u2,rfl⟩
    go_wp2
    go_ret
    refine⟨?_,HE.out _⟩
    rw[H3.out]
    simp[extS,ext0,ByteArray.append_assoc,ByteArray.size_append,puI_8,puI_2,empz,empL,empR]
   | true =>
    have H3:=Lib.hid HR
    clear HR
    go_wp2_with (first|(go_at_call 61;refine(HG.out _ (HT.out _)).mono ?_;rintro e w1 ⟨rfl,hb⟩;obtain⟨u1,rfl⟩:=HU.out.next (Nat.le_refl _) hb;clear hb)|(go_at_call 78;refine(HB.out _).mono ?_;rintro e w1 ⟨rfl,hb⟩;obtain⟨u1,rfl⟩:=HU.out.next (Nat.le_refl _) hb;clear hb)|(go_at_call 77;refine(version_calls _ _).mono ?_;rintro e w1 ⟨rfl,hb⟩;obtain⟨u1,rfl⟩:=HU.out.next (Nat.le_refl _) hb;clear hb)|(go_at_call 80;refine(put_any _ _ _ (by omega) (by omega) (by omega) (by omega)).mono ?_;rintro e w1 ⟨rfl,hb⟩;obtain⟨u1,rfl⟩:=HU.out.next (Nat.le_refl _) hb;clear hb))
    refine wp_region_class (C:=fun w'=>∃ u,w'=f u) (by kernel_rfl) (by kernel_rfl) (HU.out.drew _) ?_
    repeat (go_big_quiet_step (first|(go_at_call 79;refine(HC.out _).mono ?_;rintro e w1 ⟨rfl,hb⟩;exact⟨rfl,HU.out.next (Nat.le_refl _) hb⟩)|(go_at_call 80;refine(put_any _ _ _ (by omega) (by omega) (by omega) (by omega)).mono ?_;rintro e w1 ⟨rfl,hb⟩;exact⟨rfl,HU.out.next (Nat.le_refl _) hb⟩)|(go_at_call 82;refine(narrow_calls _ _ _ (by omega) (by omega)).mono ?_;rintro e w1 ⟨rfl,hb⟩;exact⟨rfl,HU.out.next (Nat.le_refl _) hb⟩)|(go_at_call 78;refine(HB.out _).mono ?_;rintro e w1 ⟨rfl,hb⟩;exact⟨rfl,HU.out.next (Nat.le_refl _) hb⟩)|(go_at_call 81;refine(HR10.out _).mono ?_;rintro e w1 ⟨rfl,hb⟩;exact⟨rfl,HU.out.next (Nat.le_refl _) hb⟩)))
    refine wpQuiet_nil ?_
    rintro wx ⟨u2,rfl⟩
    go_wp2
    go_ret
    refine⟨?_,HE.out _⟩
    rw[H3.out]
    simp[extS,ext0,ByteArray.append_assoc,ByteArray.size_append,puI_8,puI_2,empz,empL,empR]
  | true =>
   cases far with
   | false =>
    have H3:=Lib.hid HR
    clear HR
    go_wp2_with (first|(go_at_call 61;refine(HG.out _ (HT.out _)).mono ?_;rintro e w1 ⟨rfl,hb⟩;obtain⟨u1,rfl⟩:=HU.out.next (Nat.le_refl _) hb;clear hb)|(go_at_call 78;refine(HB.out _).mono ?_;rintro e w1 ⟨rfl,hb⟩;obtain⟨u1,rfl⟩:=HU.out.next (Nat.le_refl _) hb;clear hb))
    refine wp_region_class (C:=fun w'=>∃ u,w'=f u) (by kernel_rfl) (by kernel_rfl) (HU.out.drew _) ?_
    repeat (go_big_quiet_step (first|(go_at_call 80;refine(put_any _ _ _ (by omega) (by omega) (by omega) (by omega)).mono ?_;rintro e w1 ⟨rfl,hb⟩;exact⟨rfl,HU.out.next (Nat.le_refl _) hb⟩)))
    refine wpQuiet_nil ?_
    rintro wx ⟨u2,rfl⟩
    go_wp2_with (first|(go_at_call 61;refine(HG.out _ (HT.out _)).mono ?_;rintro e w1 ⟨rfl,hb⟩;obtain⟨u1,rfl⟩:=HU.out.next (Nat.le_refl _) hb;clear hb)|(go_at_call 78;refine(HB.out _).mono ?_;rintro e w1 ⟨rfl,hb⟩;obtain⟨u1,rfl⟩:=HU.out.next (Nat.le_refl _) hb;clear hb)|(go_at_call 77;refine(version_calls _ _).mono ?_;rintro e w1 ⟨rfl,hb⟩;obtain⟨u1,rfl⟩:=HU.out.next (Nat.le_refl _) hb;clear hb)|(go_at_call 80;refine(put_any _ _ _ (by omega) (by omega) (by omega) (by omega)).mono ?_;rintro e w1 ⟨rfl,hb⟩;obtain⟨u1,rfl⟩:=HU.out.next (Nat.le_refl _) hb;clear hb))
    refine wp_region_class (C:=fun w'=>∃ u,w'=f u) (by kernel_rfl) (by kernel_rfl) (HU.out.drew _) ?_
    repeat (go_big_quiet_step (first|(go_at_call 79;refine(HC.out _).mono ?_;rintro e w1 ⟨rfl,hb⟩;exact⟨rfl,HU.out.next (Nat.le_refl _) hb⟩)|(go_at_call 80;refine(put_any _ _ _ (by omega) (by omega) (by omega) (by omega)).mono ?_;rintro e w1 ⟨rfl,hb⟩;exact⟨rfl,HU.out.next (Nat.le_refl _) hb⟩)|(go_at_call 82;refine(narrow_calls _ _ _ (by omega) (by omega)).mono ?_;rintro e w1 ⟨rfl,hb⟩;exact⟨rfl,HU.out.next (Nat.le_refl _) hb⟩)|(go_at_call 78;refine(HB.out _).mono ?_;rintro e w1 ⟨rfl,hb⟩;exact⟨rfl,HU.out.next (Nat.le_refl _) hb⟩)|(go_at_call 81;refine(HR10.out _).mono ?_;rintro e w1 ⟨rfl,hb⟩;exact⟨rfl,HU.out.next (Nat.le_refl _) hb⟩)))
    refine wpQuiet_nil ?_
    rintro wx ⟨u2,rfl⟩
    go_wp2
    go_ret
    refine⟨?_,HE.out _⟩
    rw[H3.out]
    simp[extS,ext0,ByteArray.append_assoc,ByteArray.size_append,puI_8,puI_2,empz,empL,empR]
   | true =>
    have H3:=Lib.hid HR
    clear HR
    go_wp2_with (first|(go_at_call 61;refine(HG.out _ (HT.out _)).mono ?_;rintro e w1 ⟨rfl,hb⟩;obtain⟨u1,rfl⟩:=HU.out.next (Nat.le_refl _) hb;clear hb)|(go_at_call 78;refine(HB.out _).mono ?_;rintro e w1 ⟨rfl,hb⟩;obtain⟨u1,rfl⟩:=HU.out.next (Nat.le_refl _) hb;clear hb))
    refine wp_region_class (C:=fun w'=>∃ u,w'=f u) (by kernel_rfl) (by kernel_rfl) (HU.out.drew _) ?_
    repeat (go_big_quiet_step (first|(go_at_call 80;refine(put_any _ _ _ (by omega) (by omega) (by omega) (by omega)).mono ?_;rintro e w1 ⟨rfl,hb⟩;exact⟨rfl,HU.out.next (Nat.le_refl _) hb⟩)))
    refine wpQuiet_nil ?_
    rintro wx ⟨u2,rfl⟩
    go_wp2_with (first|(go_at_call 61;refine(HG.out _ (HT.out _)).mono ?_;rintro e w1 ⟨rfl,hb⟩;obtain⟨u1,rfl⟩:=HU.out.next (Nat.le_refl _) hb;clear hb)|(go_at_call 78;refine(HB.out _).mono ?_;rintro e w1 ⟨rfl,hb⟩;obtain⟨u1,rfl⟩:=HU.out.next (Nat.le_refl _) hb;clear hb)|(go_at_call 77;refine(version_calls _ _).mono ?_;rintro e w1 ⟨rfl,hb⟩;obtain⟨u1,rfl⟩:=HU.out.next (Nat.le_refl _) hb;clear hb)|(go_at_call 80;refine(put_any _ _ _ (by omega) (by omega) (by omega) (by omega)).mono ?_;rintro e w1 ⟨rfl,hb⟩;obtain⟨u1,rfl⟩:=HU.out.next (Nat.le_refl _) hb;clear hb))
    refine wp_region_class (C:=fun w'=>∃ u,w'=f u) (by kernel_rfl) (by kernel_rfl) (HU.out.drew _) ?_
    repeat (go_big_quiet_step (first|(go_at_call 79;refine(HC.out _).mono ?_;rintro e w1 ⟨rfl,hb⟩;exact⟨rfl,HU.out.next (Nat.le_refl _) hb⟩)|(go_at_call 80;refine(put_any _ _ _ (by omega) (by omega) (by omega) (by omega)).mono ?_;rintro e w1 ⟨rfl,hb⟩;exact⟨rfl,HU.out.next (Nat.le_refl _) hb⟩)|(go_at_call 82;refine(narrow_calls _ _ _ (by omega) (by omega)).mono ?_;rintro e w1 ⟨rfl,hb⟩;exact⟨rfl,HU.out.next (Nat.le_refl _) hb⟩)|(go_at_call 78;refine(HB.out _).mono ?_;rintro e w1 ⟨rfl,hb⟩;exact⟨rfl,HU.out.next (Nat.le_refl _) hb⟩)|(go_at_call 81;refine(HR10.out _).mono ?_;rintro e w1 ⟨rfl,hb⟩;exact⟨rfl,HU.out.next (Nat.le_refl _) hb⟩)))
    refine wpQuiet_nil ?_
    rintro wx ⟨u2,rfl⟩
    go_wp2
    go_ret
    refine⟨?_,HE.out _⟩
    rw[H3.out]
    simp[extS,ext0,ByteArray.append_assoc,ByteArray.size_append,puI_8,puI_2,empz,empL,empR]
end Go.Proofs.YtgiogemkomgkhaaGreatDoor.Zp
namespace Go.Proofs.YtgiogemkomgkhaaGreatDoor.Zp
open Go.RowKit Go.Shelf YtgiogemkomgkhaaGreatDoor.Nm
theorem locS_parts {h:Hd} (hg:goodH h=true):∃ a c,locS h=a++h.name++c∧a.size=30∧c.size=if bigH h then 20 else 0:=by
 cases hb:bigH h with
 | true =>
  refine⟨⟨#[80,75,3,4]⟩++verS true++comS h++puI 0 4++⟨#[255,255,255,255]⟩++⟨#[255,255,255,255]⟩++puI h.name.size 2++puI 20 2,puI 1 2++puI 16 2++zer 16,?_,?_,?_⟩
  ·unfold locS
   rw[hg,hb,if_pos rfl,if_pos rfl]
   simp only[ByteArray.append_assoc]
  ·simp only[ByteArray.size_append,verS_size,comS_size,puI_4,puI_2]
   rfl
  ·simp only[ByteArray.size_append,puI_2,zer_16]
   rfl
 | false =>
  refine⟨⟨#[80,75,3,4]⟩++verS false++comS h++zer 12++puI h.name.size 2++puI 0 2,⟨#[]⟩,?_,?_,?_⟩
  ·unfold locS
   rw[hg,hb,if_pos rfl,if_neg Bool.false_ne_true,empR]
  ·simp only[ByteArray.size_append,verS_size,comS_size,puI_2,zer_12]
   rfl
  ·rfl
theorem extS_size (a b c:Int) (big far:Bool):(extS a b c big far).size=if big || far then 4+((if big then 16 else 0)+(if far then 8 else 0)) else 0:=by
 unfold extS
 cases big<;>cases far<;>simp[ByteArray.size_append,puI_2,ext0_size]<;>rfl
theorem cenS_parts {h:Hd} (hg:goodH h=true):∃ a c,cenS h=a++h.name++c∧a.size=46∧c.size=if bigH h || farH h then 4+((if bigH h then 16 else 0)+(if farH h then 8 else 0)) else 0:=by
 refine⟨⟨#[80,75,1,2]⟩++verS (bigH h || farH h)++verS (bigH h || farH h)++comS h++puI h.sum 4++narS h.packed (bigH h)++narS h.size (bigH h)++puI h.name.size 2++puI (extS h.size h.packed h.pos (bigH h) (farH h)).size 2++zer 10++narS h.pos (farH h),extS h.size h.packed h.pos (bigH h) (farH h),?_,?_,?_⟩
 ·unfold cenS
  rw[hg,if_pos rfl]
 ·simp only[ByteArray.size_append,verS_size,comS_size,puI_4,puI_2,narS_size,zer_10]
  rfl
 ·exact extS_size _ _ _ _ _
theorem desS_size {h:Hd} (hg:goodH h=true):(desS h).size=if h.kept then 0 else if bigH h then 24 else 16:=by
 unfold desS
 rw[hg]
 cases h.kept<;>cases bigH h<;>simp[ByteArray.size_append,puI_4,puI_8]<;>rfl
theorem locS_size {h:Hd} (hg:goodH h=true):(locS h).size=30+h.name.size+if bigH h then 20 else 0:=by
 obtain⟨a,c,e,ha,hc⟩:=locS_parts hg
 rw[e,ByteArray.size_append,ByteArray.size_append,ha,hc]
theorem cenS_size {h:Hd} (hg:goodH h=true):(cenS h).size=46+h.name.size+if bigH h || farH h then 4+((if bigH h then 16 else 0)+(if farH h then 8 else 0)) else 0:=by
 obtain⟨a,c,e,ha,hc⟩:=cenS_parts hg
 rw[e,ByteArray.size_append,ByteArray.size_append,ha,hc]
end Go.Proofs.YtgiogemkomgkhaaGreatDoor.Zp
