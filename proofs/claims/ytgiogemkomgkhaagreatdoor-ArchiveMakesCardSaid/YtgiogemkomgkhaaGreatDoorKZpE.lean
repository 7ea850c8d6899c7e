/-
  An archive's end: zip.End gives the bytes endS.
-/
import Derived.Test.YtgiogemkomgkhaaGreatDoorKZpP
set_option linter.unusedVariables false
set_option linter.unusedSimpArgs false
namespace Go.Proofs.YtgiogemkomgkhaaGreatDoor.Zp
open Go.RowKit
def puI (v N:Int):ByteArray:=putS v.toNat N.toNat
theorem puI_size (v N:Int):(puI v N).size=N.toNat:=putS_size _ _
theorem puI_2 (v:Int):(puI v 2).size=2:=putS_size _ _
theorem puI_4 (v:Int):(puI v 4).size=4:=putS_size _ _
theorem puI_8 (v:Int):(puI v 8).size=8:=putS_size _ _
theorem put_any (v N:Int) (w:World) (h0:0≤v) (hn:v<18446744073709551616) (h1:1≤N) (h8:N≤8) :
  Calls Tryz.prog 80 #[.int .u64 v,.int .i64 N] w fun e w'=>e= .returned (.string (puI v N))∧Below w.heap.size w w':=by
 obtain⟨n,rfl⟩:=Int.eq_ofNat_of_zero_le h0
 obtain⟨k,rfl⟩:=Int.eq_ofNat_of_zero_le (show 0≤N by omega)
 exact put_calls n k w (by omega) (by omega) (by omega)
theorem refput_any (v N:Int) (w:World) (h0:0≤v) (hn:v<18446744073709551616) (h1:1≤N) (h8:N≤8) :
  Calls Tryz.prog 54 #[.int .u64 v,.int .i64 N] w fun e w'=>e= .returned (.string (puI v N))∧Below w.heap.size w w':=by
 obtain⟨n,rfl⟩:=Int.eq_ofNat_of_zero_le h0
 obtain⟨k,rfl⟩:=Int.eq_ofNat_of_zero_le (show 0≤N by omega)
 exact refput_calls n k w (by omega) (by omega) (by omega)
theorem n2_calls (v:Int) (w:World) (h0:0≤v) (hn:v<18446744073709551616) :
  Calls Tryz.prog 51 #[.int .u64 v] w fun e w'=>e= .returned (.string (puI v 2))∧Below w.heap.size w w':=by
 go_enter Tryz.func51,Tryz.ntmps51
 go_wp2_with (go_at_call 54;refine(refput_any _ _ _ h0 hn (by omega) (by omega)).mono ?_;rintro e w1 ⟨rfl,hb⟩)
 go_ret
 exact⟨rfl,hb⟩
theorem n4_calls (v:Int) (w:World) (h0:0≤v) (hn:v<18446744073709551616) :
  Calls Tryz.prog 53 #[.int .u64 v] w fun e w'=>e= .returned (.string (puI v 4))∧Below w.heap.size w w':=by
 go_enter Tryz.func53,Tryz.ntmps53
 go_wp2_with (go_at_call 54;refine(refput_any _ _ _ h0 hn (by omega) (by omega)).mono ?_;rintro e w1 ⟨rfl,hb⟩)
 go_ret
 exact⟨rfl,hb⟩
def verS (b:Bool):ByteArray:=puI (if b then 45 else 20) 2
theorem verS_size (b:Bool):(verS b).size=2:=puI_size _ _
theorem version_calls (b:Bool) (w:World) :
  Calls Tryz.prog 77 #[.bool b] w fun e w'=>e= .returned (.string (verS b))∧Below w.heap.size w w':=by
 cases b
 all_goals
  go_enter Tryz.func77,Tryz.ntmps77
  go_wp2_with (go_at_call 80;refine(put_any _ _ _ (by omega) (by omega) (by omega) (by omega)).mono ?_;rintro e w1 ⟨rfl,hb⟩)
  go_ret
  exact⟨rfl,hb⟩
def narS (v:Int) (b:Bool):ByteArray:=if b then⟨#[255,255,255,255]⟩ else puI v 4
theorem narS_size (v:Int) (b:Bool):(narS v b).size=4:=by
 cases b
 ·exact puI_size _ _
 ·rfl
theorem narrow_calls (v:Int) (b:Bool) (w:World) (h0:0≤v) (hn:v<18446744073709551616) :
  Calls Tryz.prog 82 #[.int .u64 v,.bool b] w fun e w'=>e= .returned (.string (narS v b))∧Below w.heap.size w w':=by
 have B0:=Below.refl w.heap.size w
 cases b
 ·go_enter Tryz.func82,Tryz.ntmps82
  go_wp2_with (go_at_call 80;refine(put_any _ _ _ h0 hn (by omega) (by omega)).mono ?_;rintro e w1 ⟨rfl,hb⟩)
  go_ret
  exact⟨rfl,hb⟩
 ·go_enter Tryz.func82,Tryz.ntmps82
  go_wp2
  go_ret
  exact⟨rfl,B0⟩
def endS (c z a:Int):ByteArray :=
 if c<4611686018427387904∧z<4611686018427387904∧a<4611686018427387904 then
  (if 65534<c∨4294967294<z∨4294967294<a then
   ⟨#[80,75,6,6]⟩++puI 44 8++verS true++verS true++puI 0 8++puI c 8++puI c 8++puI z 8++puI a 8++(⟨#[80,75,6,7]⟩++puI 0 4++puI (a+z) 8++puI 1 4)
  else⟨#[]⟩)++⟨#[80,75,5,6]⟩++puI 0 4++puI (min c 65535) 2++puI (min c 65535) 2++narS z (decide (4294967294<z))++narS a (decide (4294967294<a))++puI 0 2
 else⟨#[]⟩
set_option maxHeartbeats 2000000 in
set_option maxRecDepth 100000 in
theorem end_calls (c z a:Int) (w:World) (c0:0≤c) (cn:c<18446744073709551616) (z0:0≤z) (zn:z<18446744073709551616) (a0:0≤a) (an:a<18446744073709551616) :
  Calls Tryz.prog 63 #[.int .u64 c,.int .u64 z,.int .u64 a] w fun e w'=>e= .returned (.string (endS c z a))∧Below w.heap.size w w':=by
 obtain⟨R,HR⟩:∃ R,R=endS c z a:=⟨_,rfl⟩
 rw[← HR]
 unfold endS at HR
 have B0:=Lib.hid (Below.refl w.heap.size w)
 by_cases hc:c<4611686018427387904
 ·by_cases hz:z<4611686018427387904
  ·by_cases ha:a<4611686018427387904
   ·have q1:decide (4611686018427387904≤c)=false:=decide_eq_false (by omega)
    have q2:decide (4611686018427387904≤z)=false:=decide_eq_false (by omega)
    have q3:decide (4611686018427387904≤a)=false:=decide_eq_false (by omega)
    rw[if_pos ⟨hc,hz,ha⟩]at HR
    obtain⟨m,hm⟩:∃ m,min c 65535=m:=⟨_,rfl⟩
    have hm0:0≤m∧m≤65535:=by omega
    have e8:=puI_8
    have e4:=puI_4
    have e2:=puI_2
    have ev:=verS_size
    have en:=narS_size
    obtain⟨b1,p1⟩:∃ b,decide (65534<c)=b:=⟨_,rfl⟩
    obtain⟨b2,p2⟩:∃ b,decide (4294967294<z)=b:=⟨_,rfl⟩
    obtain⟨b3,p3⟩:∃ b,decide (4294967294<a)=b:=⟨_,rfl⟩
    have HR2:R=(if (b1 || b2 || b3) then
   ⟨#[80,75,6,6]⟩++puI 44 8++verS true++verS true++puI 0 8++puI c 8++puI c 8++puI z 8++puI a 8++(⟨#[80,75,6,7]⟩++puI 0 4++puI (a+z) 8++puI 1 4)
  else⟨#[]⟩)++⟨#[80,75,5,6]⟩++puI 0 4++puI m 2++puI m 2++narS z b2++narS a b3++puI 0 2:=by
     rw[HR,hm,← p1,← p2,← p3]
     simp only[Bool.or_eq_true,decide_eq_true_eq,or_assoc]
    clear HR
    have H3:=Lib.hid HR2
    clear HR2
    cases b1<;>cases b2<;>cases b3
    all_goals
     go_enter Tryz.func63,Tryz.ntmps63
     go_wp2_with (first|(go_at_call 80;refine(put_any _ _ _ (by omega) (by omega) (by omega) (by omega)).mono ?_;rintro e w1 ⟨rfl,hb⟩;replace B0:=Lib.hid (B0.out.trans (hb.mono B0.out.size));clear hb)|(go_at_call 77;refine(version_calls _ _).mono ?_;rintro e w1 ⟨rfl,hb⟩;replace B0:=Lib.hid (B0.out.trans (hb.mono B0.out.size));clear hb)|(go_at_call 82;refine(narrow_calls _ _ _ (by omega) (by omega)).mono ?_;rintro e w1 ⟨rfl,hb⟩;replace B0:=Lib.hid (B0.out.trans (hb.mono B0.out.size));clear hb))
     all_goals
      go_ret
      refine⟨?_,B0.out⟩
      rw[H3.out]
      first|(have e:m=65535:=by omega);rw[e];simp[ByteArray.append_assoc];done|(have e:m=c:=by omega);rw[e];simp[ByteArray.append_assoc];done
   ·have q1:decide (4611686018427387904≤c)=false:=decide_eq_false (by omega)
    have q2:decide (4611686018427387904≤z)=false:=decide_eq_false (by omega)
    have q3:decide (4611686018427387904≤a)=true:=decide_eq_true (by omega)
    rw[if_neg (by omega)]at HR
    clear hc hz ha
    go_enter Tryz.func63,Tryz.ntmps63
    go_wp2
    go_ret
    exact⟨by rw[HR];rfl,B0.out⟩
  ·have q1:decide (4611686018427387904≤c)=false:=decide_eq_false (by omega)
   have q2:decide (4611686018427387904≤z)=true:=decide_eq_true (by omega)
   rw[if_neg (by omega)]at HR
   clear hc hz
   go_enter Tryz.func63,Tryz.ntmps63
   go_wp2
   go_ret
   exact⟨by rw[HR];rfl,B0.out⟩
 ·have q1:decide (4611686018427387904≤c)=true:=decide_eq_true (by omega)
  rw[if_neg (by omega)]at HR
  clear hc
  go_enter Tryz.func63,Tryz.ntmps63
  go_wp2
  go_ret
  exact⟨by rw[HR];rfl,B0.out⟩
end Go.Proofs.YtgiogemkomgkhaaGreatDoor.Zp
