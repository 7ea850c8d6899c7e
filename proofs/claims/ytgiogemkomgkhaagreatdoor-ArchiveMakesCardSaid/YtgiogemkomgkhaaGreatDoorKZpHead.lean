/-
  Heads: which are good, which are big; the program's and the reference's.
-/
import Derived.Test.YtgiogemkomgkhaaGreatDoorKZpA
import Derived.Test.YtgiogemkomgkhaaGreatDoorKNm
set_option linter.unusedVariables false
set_option linter.unusedSimpArgs false
namespace Go.Proofs.YtgiogemkomgkhaaGreatDoor.Zp
open Go.RowKit Go.Shelf YtgiogemkomgkhaaGreatDoor.Nm
structure Hd where
 (name:ByteArray)
 (t:Tm)
 (packed size sum pos:Int)
 (kept:Bool)
def Hd.val (h:Hd):Value:= .agg #[.string h.name,.int .i64 h.t.y,.int .i64 h.t.mo,.int .i64 h.t.d,.int .i64 h.t.h,.int .i64 h.t.mi,.int .i64 h.t.s,.int .u64 h.packed,.int .u64 h.size,.int .u32 h.sum,.int .u64 h.pos,.bool h.kept]
structure Hd.ok (h:Hd):Prop where
 n:h.name.size≤140737488351232
 p:0≤h.packed∧h.packed<18446744073709551616
 s:0≤h.size∧h.size<18446744073709551616
 u:0≤h.sum∧h.sum<4294967296
 a:0≤h.pos∧h.pos<18446744073709551616
def bigH (h:Hd):Bool:=decide (4294705145<h.size) || decide (4294705145<h.packed)
def goodH (h:Hd):Bool :=
 checkB h.name && tgood h.t && decide (h.packed<4611686018427387904) && decide (h.size<4611686018427387904) && decide (h.pos<4611686018427387904) && (!h.kept || (decide (h.packed=0) && decide (h.size=0)))
set_option maxHeartbeats 1000000 in
set_option maxRecDepth 100000 in
theorem big_calls (h:Hd) (w:World):Calls Tryz.prog 78 #[h.val] w fun e w'=>e= .returned (.bool (bigH h))∧Below w.heap.size w w':=by
 obtain⟨name,⟨y,mo,d,hh,mi,s⟩,packed,size,sum,pos,kept⟩:=h
 have B0:=Lib.hid (Below.refl w.heap.size w)
 simp only[Hd.val,Tm.val,bigH]
 cases q1:decide (4294705145<size)<;>cases q2:decide (4294705145<packed)
 all_goals
  go_enter Tryz.func78,Tryz.ntmps78
  go_wp2
  go_ret
  exact⟨rfl,B0.out.alloc B0.out.size _⟩
end Go.Proofs.YtgiogemkomgkhaaGreatDoor.Zp
