/-
  block.Write, of the kind Stored.
-/
import Derived.Test.YtmpokiflhijnoaaGreatDoorBkSize
import Derived.Test.YtmpokiflhijnoaaGreatDoorBwAdd
import Derived.Test.YtmpokiflhijnoaaGreatDoorZpPut
namespace Go.Proofs.YtmpokiflhijnoaaGreatDoor.Bk
open Go.RowKit Go.Shelf Go.Proofs.YtmpokiflhijnoaaGreatDoor.Mg Go.Proofs.YtmpokiflhijnoaaGreatDoor.Bw Go.Proofs.YtmpokiflhijnoaaGreatDoor.Ri Go.Proofs.YtmpokiflhijnoaaGreatDoor.Zp
set_option linter.unusedVariables false
set_option linter.unusedSimpArgs false

theorem padB_padB (bs : List Bool) : padB (padB bs) = padB bs := by
  have h := padB_mod bs
  show padB bs ++ List.replicate ((8 - (padB bs).length % 8) % 8) false = padB bs
  rw [h]
  simp
def storedS (s : ByteArray) : ByteArray := putS s.size 2 ++ putS (65535 - s.size) 2 ++ s
def storedB (bs : List Bool) (last : Bool) (s : ByteArray) : List Bool := padB (bs ++ kindB 0 last) ++ strB (storedS s)
theorem storedS_size (s : ByteArray) : (storedS s).size = s.size + 4 := by
  unfold storedS
  rw [ByteArray.size_append, ByteArray.size_append, putS_size, putS_size]
  omega

set_option maxHeartbeats 4000000 in
set_option maxRecDepth 100000 in
theorem write0_calls (last : Bool) (s : ByteArray) (A : Option Addr) (c : Nat) (ts : List Tok) (base B o : Nat) (v : Value) (bs : List Bool) (w : World) (hA : TokAt w A ts) (hm : mayB 0 s.size ts = true) (hw : WAt w base B o v bs) (hbs : bs.length ≤ 10000000000) :
    Calls Tryz.prog 19 #[.pointer (some ⟨B, o, none⟩), .int .i64 0, .bool last, .string s, .slice A ts.length c] w fun e w' => e = .returned (.int .i64 0) ∧ ∃ v', WAt w' base B o v' (storedB bs last s) ∧ Wrote B o v w v' w' := by
  have hn := may_len hm
  have HM := Lib.hid (may_calls 0 s A c ts w hA (by omega))
  rw [hm] at HM
  have HW0 := Lib.hid hw
  have hkv : kindB 0 last = bitsN 3 (if last then 1 else 0) := by unfold kindB; cases last <;> rfl
  have HKV := Lib.hid hkv
  have hor : Go.bits .or .u64 0 1 = 1 := by decide +kernel
  have HP1 := Lib.hid (fun W : World => put_calls s.size 2 W (by omega) (by omega) (by omega))
  have HP2 := Lib.hid (fun W : World => put_calls (65535 - s.size) 2 W (by omega) (by omega) (by omega))
  have hst := storedS_size s
  have HST : Hid (storedS s = putS s.size 2 ++ putS (65535 - s.size) 2 ++ s) := Lib.hid rfl
  have e1 : (65535 : Int) - (s.size : Int) = ((65535 - s.size : Nat) : Int) := by omega
  have hs5 : (s.size : Int) ≤ 65535 := by omega
  have HE1 := Lib.hid e1
  have z1 : (putS s.size 2).size = 2 := putS_size _ _
  have z2 : (putS (65535 - s.size) 2).size = 2 := putS_size _ _
  have z3 : (putS s.size 2 ++ putS (65535 - s.size) 2).size = 4 := by rw [ByteArray.size_append, z1, z2]
  generalize ts.length = n at *
  clear hm hw hA hkv e1
  cases last with
  | false =>
    go_enter Tryz.func19, Tryz.ntmps19
    go_wp2_with fail
    refine HM.out.mono ?_
    rintro e w1 ⟨rfl, hb⟩
    have HW1 := Lib.hid (wat_below HW0.out hb)
    have HR1 := Lib.hid (wrote_grow (Wrote.refl B o v w) HW0.out.Bt hb)
    have HCW := Lib.hid (write_any base B o v bs 0 3 w1 HW1.out (by omega) (by omega) (by omega))
    clear hb
    go_wp2_with fail
    refine HCW.out.mono ?_
    rintro e w2 ⟨rfl, v2, r1, r2⟩
    have HW2 : Hid (WAt w2 base B o v2 (bs ++ kindB 0 false)) := Lib.hid (by rw [HKV.out]; exact r1)
    have HR2 := Lib.hid (HR1.out.trans r2)
    have hkl : (bs ++ kindB 0 false).length ≤ 10000000003 := by rw [List.length_append, kindB_len]; omega
    have HAL := Lib.hid (align_calls base B o v2 (bs ++ kindB 0 false) w2 HW2.out (by omega))
    clear r1 r2 HCW HW1 HR1
    go_wp2_with fail
    refine HAL.out.mono ?_
    rintro e w3 ⟨rfl, v3, r1, r2⟩
    have hpl := padB_le (bs ++ kindB 0 false)
    have HW3 := Lib.hid r1
    have HR3 := Lib.hid (HR2.out.trans r2)
    clear r1 r2 HAL
    go_wp2_with fail
    refine (HP1.out w3).mono ?_
    rintro e w4 ⟨rfl, hb⟩
    have HW4 := Lib.hid (wat_below HW3.out hb)
    have HR4 := Lib.hid (wrote_grow HR3.out HW3.out.Bt hb)
    clear hb
    go_wp2_with fail
    rw [HE1.out]
    refine (HP2.out w4).mono ?_
    rintro e w5 ⟨rfl, hb⟩
    have HW5 := Lib.hid (wat_below HW4.out hb)
    have HR5 := Lib.hid (wrote_grow HR4.out HW4.out.Bt hb)
    clear hb
    have HAD := Lib.hid (add_calls base B o v3 (padB (bs ++ kindB 0 false)) (storedS s) w5 HW5.out (by omega) (by omega) (by omega))
    rw [HST.out] at HAD
    go_wp2_with fail
    refine HAD.out.mono ?_
    rintro e w6 ⟨rfl, v6, r1, r2⟩
    have HF1 : Hid (WAt w6 base B o v6 (storedB bs false s)) := Lib.hid (by
      unfold storedB
      rw [HST.out]
      rw [padB_padB] at r1
      exact r1)
    have HF2 := Lib.hid (HR5.out.trans r2)
    clear r1 r2 HAD
    go_wp2
    go_ret
    exact ⟨rfl, v6, HF1.out, HF2.out⟩
  | true =>
    go_enter Tryz.func19, Tryz.ntmps19
    go_wp2_with fail
    refine HM.out.mono ?_
    rintro e w1 ⟨rfl, hb⟩
    have HW1 := Lib.hid (wat_below HW0.out hb)
    have HR1 := Lib.hid (wrote_grow (Wrote.refl B o v w) HW0.out.Bt hb)
    have HCW := Lib.hid (write_any base B o v bs 1 3 w1 HW1.out (by omega) (by omega) (by omega))
    clear hb
    go_wp2_with fail
    refine HCW.out.mono ?_
    rintro e w2 ⟨rfl, v2, r1, r2⟩
    have HW2 : Hid (WAt w2 base B o v2 (bs ++ kindB 0 true)) := Lib.hid (by rw [HKV.out]; exact r1)
    have HR2 := Lib.hid (HR1.out.trans r2)
    have hkl : (bs ++ kindB 0 true).length ≤ 10000000003 := by rw [List.length_append, kindB_len]; omega
    have HAL := Lib.hid (align_calls base B o v2 (bs ++ kindB 0 true) w2 HW2.out (by omega))
    clear r1 r2 HCW HW1 HR1
    go_wp2_with fail
    refine HAL.out.mono ?_
    rintro e w3 ⟨rfl, v3, r1, r2⟩
    have hpl := padB_le (bs ++ kindB 0 true)
    have HW3 := Lib.hid r1
    have HR3 := Lib.hid (HR2.out.trans r2)
    clear r1 r2 HAL
    go_wp2_with fail
    refine (HP1.out w3).mono ?_
    rintro e w4 ⟨rfl, hb⟩
    have HW4 := Lib.hid (wat_below HW3.out hb)
    have HR4 := Lib.hid (wrote_grow HR3.out HW3.out.Bt hb)
    clear hb
    go_wp2_with fail
    rw [HE1.out]
    refine (HP2.out w4).mono ?_
    rintro e w5 ⟨rfl, hb⟩
    have HW5 := Lib.hid (wat_below HW4.out hb)
    have HR5 := Lib.hid (wrote_grow HR4.out HW4.out.Bt hb)
    clear hb
    have HAD := Lib.hid (add_calls base B o v3 (padB (bs ++ kindB 0 true)) (storedS s) w5 HW5.out (by omega) (by omega) (by omega))
    rw [HST.out] at HAD
    go_wp2_with fail
    refine HAD.out.mono ?_
    rintro e w6 ⟨rfl, v6, r1, r2⟩
    have HF1 : Hid (WAt w6 base B o v6 (storedB bs true s)) := Lib.hid (by
      unfold storedB
      rw [HST.out]
      rw [padB_padB] at r1
      exact r1)
    have HF2 := Lib.hid (HR5.out.trans r2)
    clear r1 r2 HAD
    go_wp2
    go_ret
    exact ⟨rfl, v6, HF1.out, HF2.out⟩
end Go.Proofs.YtmpokiflhijnoaaGreatDoor.Bk
