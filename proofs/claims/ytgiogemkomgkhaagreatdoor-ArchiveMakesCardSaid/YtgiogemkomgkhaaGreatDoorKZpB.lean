/-
  Heads: the common part of both headers.
-/
import Derived.Test.YtgiogemkomgkhaaGreatDoorKZpA
import Derived.BigQuiet
import Derived.Test.YtgiogemkomgkhaaGreatDoorKZpHead2
import Derived.Test.YtgiogemkomgkhaaGreatDoorKZpE
set_option linter.unusedVariables false
set_option linter.unusedSimpArgs false
namespace Go.Proofs.YtgiogemkomgkhaaGreatDoor.Zp
open Go.RowKit
theorem wp_region_class {P:Program} {C:World→Prop} {id:Nat} {Q:Exit→Act→World→Prop} {a:Act} {w:World} {l:List Oper} (hm:P.follows .mixedOrders=true) (hB:Region.lexB .any l.toArray=true)
  (hC:C w.drew) (h:wpQuiet P l.toArray C (fun a'=>∀ w',C w'→Q .normal a' w') l a):(Code.region id l.toArray true).wp P Q a w :=
 wp_region_quiet (C:=C) hm hB hC (by simpa using h)
structure Above (B:Nat) (W:World) (U:Type) (f:U→World):Prop where
 below:∀ u,Below B W (f u)
 all:∀ wx,Below B W wx→∃ u,wx=f u
theorem above (B:Nat) (W:World):∃ (U:Type) (f:U→World),Above B W U f :=
 ⟨{wx:World // Below B W wx},Subtype.val,fun u=>u.2,fun wx h=>⟨⟨wx,h⟩,rfl⟩⟩
theorem Above.next {B:Nat} {W:World} {U:Type} {f:U→World} (h:Above B W U f) (hB:B≤W.heap.size) {u:U} {wx:World} (hb:Below (f u).heap.size (f u) wx):∃ u',wx=f u' :=
 h.all _ ((h.below u).trans (hb.mono (Nat.le_trans hB (h.below u).size)))
theorem Above.cell {B:Nat} {W:World} {U:Type} {f:U→World} (h:Above B W U f) {b:Nat} {cs:Array Value} {T:Nat} (hk:Blk b cs T W) (hb:b<B) (k:Nat) (v:Value) (hv:cs[k]?=some v) (u:U):(f u).cell? ⟨b,k,none⟩=some v :=
 ((hk.under hb (h.below u)).cell k).trans hv
theorem Above.drew {B:Nat} {W:World} {U:Type} {f:U→World} (h:Above B W U f) (u:U):∃ u',(f u).drew=f u':=h.all _ (h.below u).drew
theorem Above.start {B:Nat} {W:World} {U:Type} {f:U→World} (h:Above B W U f):∃ u,W=f u:=h.all _ (Below.refl _ _)
end Go.Proofs.YtgiogemkomgkhaaGreatDoor.Zp
namespace Go.Proofs.YtgiogemkomgkhaaGreatDoor.Zp
open Go.RowKit Go.Shelf YtgiogemkomgkhaaGreatDoor.Nm
def flagI (kept pl:Bool):Int:=(if kept then 0 else 8)+(if pl then 0 else 2048)
def methI (kept:Bool):Int:=if kept then 0 else 8
def comS (h:Hd):ByteArray:=puI (flagI h.kept (plainB h.name)) 2++puI (methI h.kept) 2++puI (timeN h.t) 2++puI (dateN h.t) 2
theorem comS_size (h:Hd):(comS h).size=8:=by
 unfold comS
 rw[ByteArray.size_append,ByteArray.size_append,ByteArray.size_append,puI_2,puI_2,puI_2,puI_2]
theorem dateN_lt {t:Tm} (h:Within t):0≤dateN t∧dateN t<65536:=by
 obtain⟨b1,b2,b3,b4,b5,b6,b7⟩:=h
 unfold dateN
 omega
theorem timeN_lt {t:Tm} (h:Within t):0≤timeN t∧timeN t<65536:=by
 obtain⟨b1,b2,b3,b4,b5,b6,b7⟩:=h
 unfold timeN
 omega
set_option maxHeartbeats 2000000 in
set_option maxRecDepth 100000 in
theorem common_calls (h:Hd) (w:World) (hn:h.name.size≤140737488351232) (hg:tgood h.t=true):Calls Tryz.prog 79 #[h.val] w fun e w'=>e= .returned (.string (comS h))∧Below w.heap.size w w':=by
 have hd:=dateN_lt (tgood_within hg)
 have ht:=timeN_lt (tgood_within hg)
 obtain⟨R,HR⟩:∃ R,R=comS h:=⟨_,rfl⟩
 rw[← HR]
 unfold comS at HR
 obtain⟨name,⟨y,mo,d,hh,mi,s⟩,packed,size,sum,pos,kept⟩:=h
 simp only at hn hg hd ht HR
 simp only[Hd.val]
 have hP:Hid (∀ W,Calls Tryz.prog 99 #[.agg #[.int .i64 y,.int .i64 mo,.int .i64 d,.int .i64 hh,.int .i64 mi,.int .i64 s]] W fun e w'=>e= .returned (.tuple #[.int .u64 (dateN ⟨y,mo,d,hh,mi,s⟩),.int .u64 (timeN ⟨y,mo,d,hh,mi,s⟩),.bool true])∧Below W.heap.size W w'):=Lib.hid (fun W=>pack_calls ⟨y,mo,d,hh,mi,s⟩ W hg)
 clear hg
 generalize dateN ⟨y,mo,d,hh,mi,s⟩=D at *
 generalize timeN ⟨y,mo,d,hh,mi,s⟩=T at *
 have B0:=Lib.hid ((Below.refl w.heap.size w).alloc (Nat.le_refl _) (.cells #[.string name,.int .i64 y,.int .i64 mo,.int .i64 d,.int .i64 hh,.int .i64 mi,.int .i64 s,.int .u64 packed,.int .u64 size,.int .u32 sum,.int .u64 pos,.bool kept] 121))
 have o1:Go.bits .or .u64 8 2048=2056:=by decide
 have o2:Go.bits .or .u64 0 2048=2048:=by decide
 have e2:=puI_2
 cases kept<;>cases hp:plainB name
 all_goals
  rw[hp]at HR
  have H3:=Lib.hid HR
  clear HR
  go_enter Tryz.func79,Tryz.ntmps79
  go_wp2_with (first|(go_at_call 98;refine(plain_calls _ _ (by unfold maxLen;omega)).mono ?_;rintro e w' ⟨rfl,rfl⟩)|(go_at_call 99;refine(hP.out _).mono ?_;rintro e w1 ⟨rfl,hb⟩;replace B0:=Lib.hid (B0.out.trans (hb.mono B0.out.size));clear hb)|(go_at_call 80;refine(put_any _ _ _ (by omega) (by omega) (by omega) (by omega)).mono ?_;rintro e w1 ⟨rfl,hb⟩;replace B0:=Lib.hid (B0.out.trans (hb.mono B0.out.size));clear hb))
  go_ret
  exact⟨by rw[H3.out];rfl,B0.out⟩
end Go.Proofs.YtgiogemkomgkhaaGreatDoor.Zp
