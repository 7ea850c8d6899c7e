/-
  Times: packed and unpacked.
-/
import Derived.Test.YtehhoigedniglaaDoorZpTime2
import Derived.Test.YtehhoigedniglaaDoorZpBlk
namespace Go.Proofs.YtehhoigedniglaaDoor.Zp
open Go.RowKit
set_option linter.unusedVariables false
set_option linter.unusedSimpArgs false

/-- A good time's fields lie within their bounds. -/
structure Within (t : Tm) : Prop where
  y : 1980 ≤ t.y ∧ t.y ≤ 2107
  mo : 1 ≤ t.mo ∧ t.mo ≤ 12
  d : 1 ≤ t.d ∧ t.d ≤ 31
  h : 0 ≤ t.h ∧ t.h ≤ 23
  mi : 0 ≤ t.mi ∧ t.mi ≤ 59
  s : 0 ≤ t.s ∧ t.s ≤ 58
  e : t.s.tmod 2 = 0
theorem daysI_le (y m : Int) : daysI y m ≤ 31 := by
  unfold daysI
  repeat' split
  all_goals omega
theorem daysI_pos (y m : Int) (h : 1 ≤ daysI y m) : 1 ≤ m ∧ m ≤ 12 := by
  unfold daysI at h
  repeat' split at h
  all_goals omega
theorem tgood_within {t : Tm} (h : tgood t = true) : Within t := by
  unfold tgood tgoodB at h
  simp only [Bool.and_eq_true, decide_eq_true_eq, beq_iff_eq] at h
  obtain ⟨⟨⟨⟨⟨⟨⟨⟨⟨⟨a, b⟩, c⟩, d⟩, e⟩, f⟩, g⟩, i⟩, j⟩, k⟩, l⟩ := h
  have h1 := daysI_le t.y t.mo
  have h2 := daysI_pos t.y t.mo (by omega)
  have h3 : t.s.tmod 2 = t.s % 2 := by rw [Int.tmod_eq_emod_of_nonneg (by omega)]
  exact ⟨⟨a, b⟩, h2, ⟨c, by omega⟩, ⟨e, by omega⟩, ⟨g, by omega⟩, ⟨j, by omega⟩, l⟩

def dateN (t : Tm) : Int := t.d + 32 * t.mo + 512 * (t.y - 1980)
def timeN (t : Tm) : Int := t.s / 2 + 32 * t.mi + 2048 * t.h

set_option maxRecDepth 100000 in
theorem or_i64 (b a : Int) (i : Nat) (hi : i < 62) (hb : 0 ≤ b) (hb2 : b < ((2 ^ i : Nat) : Int)) (ha : 0 ≤ a) (hs : a * ((2 ^ i : Nat) : Int) < 4611686018427387904) : Go.bits .or .i64 b (a * ((2 ^ i : Nat) : Int)) = b + a * ((2 ^ i : Nat) : Int) := by
  obtain ⟨b, rfl⟩ := Int.eq_ofNat_of_zero_le hb
  obtain ⟨a, rfl⟩ := Int.eq_ofNat_of_zero_le ha
  have hb3 : b < 2 ^ i := Int.ofNat_lt.1 hb2
  have e0 : ((a : Nat) : Int) * ((2 ^ i : Nat) : Int) = ((a * 2 ^ i : Nat) : Int) := (Int.natCast_mul _ _).symm
  have hs3 : a * 2 ^ i < 4611686018427387904 := by
    rw [e0] at hs
    exact Int.ofNat_lt.1 hs
  have hp : 2 ^ i < 4611686018427387904 := Nat.pow_lt_pow_right (by omega) hi
  rw [e0]
  have e : Go.bits .or .i64 ((b : Nat) : Int) ((a * 2 ^ i : Nat) : Int) = IntKind.i64.wrap ((BitVec.ofInt 64 ((b : Nat) : Int) ||| BitVec.ofInt 64 ((a * 2 ^ i : Nat) : Int)).toNat : Int) := rfl
  have e2 := nat_or_add a i b hb3
  rw [Nat.or_comm] at e2
  rw [e, BitVec.ofInt_natCast, BitVec.ofInt_natCast, BitVec.toNat_or, BitVec.toNat_ofNat, BitVec.toNat_ofNat, Nat.mod_eq_of_lt (by omega), Nat.mod_eq_of_lt (by omega), e2, IntKind.wrap_i64]
  omega

set_option maxHeartbeats 1000000 in
set_option maxRecDepth 100000 in
theorem pack_good (y mo d h mi s : Int) (w : World) (hg : tgood ⟨y, mo, d, h, mi, s⟩ = true) :
    Calls Tryd.prog 42 #[.agg #[.int .i64 y, .int .i64 mo, .int .i64 d, .int .i64 h, .int .i64 mi, .int .i64 s]] w fun e w' => e = .returned (.tuple #[.int .u64 (dateN ⟨y, mo, d, h, mi, s⟩), .int .u64 (timeN ⟨y, mo, d, h, mi, s⟩), .bool true]) ∧ Below w.heap.size w w' := by
  obtain ⟨b1, b2, b3, b4, b5, b6, b7⟩ := tgood_within hg
  simp only at b1 b2 b3 b4 b5 b6 b7
  have o1 : Go.bits .or .i64 d (mo * 32) = d + mo * 32 := or_i64 d mo 5 (by omega) (by omega) (by omega) (by omega) (by omega)
  have o2 : Go.bits .or .i64 (d + mo * 32) ((y - 1980) * 512) = d + mo * 32 + (y - 1980) * 512 := or_i64 _ (y - 1980) 9 (by omega) (by omega) (by omega) (by omega) (by omega)
  have o3 : Go.bits .or .i64 (s / 2) (mi * 32) = s / 2 + mi * 32 := or_i64 (s / 2) mi 5 (by omega) (by omega) (by omega) (by omega) (by omega)
  have o4 : Go.bits .or .i64 (s / 2 + mi * 32) (h * 2048) = s / 2 + mi * 32 + h * 2048 := or_i64 _ h 11 (by omega) (by omega) (by omega) (by omega) (by omega)
  have o5 : IntKind.u64.wrap (d + mo * 32 + (y - 1980) * 512) = dateN ⟨y, mo, d, h, mi, s⟩ := by rw [IntKind.wrap_u64]; simp only [dateN]; omega
  have o6 : IntKind.u64.wrap (s / 2 + mi * 32 + h * 2048) = timeN ⟨y, mo, d, h, mi, s⟩ := by rw [IntKind.wrap_u64]; simp only [timeN]; omega
  have B0 := Lib.hid (Below.refl w.heap.size w)
  have O1 := Lib.hid o1
  have O2 := Lib.hid o2
  have O3 := Lib.hid o3
  have O4 := Lib.hid o4
  have O5 := Lib.hid o5
  have O6 := Lib.hid o6
  clear o1 o2 o3 o4 o5 o6
  replace B0 := Lib.hid (B0.out.alloc B0.out.size (.cells #[.int .i64 y, .int .i64 mo, .int .i64 d, .int .i64 h, .int .i64 mi, .int .i64 s] 30))
  go_enter Tryd.func42, Tryd.ntmps42
  go_wp2_with (go_at_call 37; refine (tgood_calls ⟨y, mo, d, h, mi, s⟩ _).mono ?_; rintro e w1 ⟨rfl, hb⟩; rw [hg]; replace B0 := Lib.hid (B0.out.trans (hb.mono B0.out.size)); have hk := (Blk.new w _ _).below hb; have c0 := hk.cell 0; have c1 := hk.cell 1; have c2 := hk.cell 2; have c3 := hk.cell 3; have c4 := hk.cell 4; have c5 := hk.cell 5; simp only [List.getElem?_toArray, List.getElem?_cons_zero, List.getElem?_cons_succ] at c0 c1 c2 c3 c4 c5; clear hk hb)
  go_quiet (fail)
  go_wp2
  go_ret3
  exact ⟨by rw [← O5.out, ← O6.out, ← O2.out, ← O1.out, ← O4.out, ← O3.out] <;> rfl, B0.out.trans ((below_drewN' _ _).mono B0.out.size)⟩

theorem pack_calls (t : Tm) (w : World) (hg : tgood t = true) :
    Calls Tryd.prog 42 #[t.val] w fun e w' => e = .returned (.tuple #[.int .u64 (dateN t), .int .u64 (timeN t), .bool true]) ∧ Below w.heap.size w w' := by
  obtain ⟨y, mo, d, h, mi, s⟩ := t
  exact pack_good y mo d h mi s w hg

/-- A date's and a time's number as a time. -/
def unpackT (date time : Int) : Tm := ⟨date / 512 + 1980, date / 32 % 16, date % 32, time / 2048, time / 32 % 64, time % 32 * 2⟩
def zeroT : Tm := ⟨0, 0, 0, 0, 0, 0⟩

theorem and_i64 (a : Int) (k : Nat) (m : Int) (hk : k < 62) (hm : m = ((2 ^ k - 1 : Nat) : Int)) (ha : 0 ≤ a) (hs : a < 4611686018427387904) : Go.bits .and .i64 a m = a % ((2 ^ k : Nat) : Int) := by
  obtain ⟨a, rfl⟩ := Int.eq_ofNat_of_zero_le ha
  subst hm
  have hp : 2 ^ k < 4611686018427387904 := Nat.pow_lt_pow_right (by omega) hk
  have e : Go.bits .and .i64 ((a : Nat) : Int) ((2 ^ k - 1 : Nat) : Int) = IntKind.i64.wrap ((BitVec.ofInt 64 ((a : Nat) : Int) &&& BitVec.ofInt 64 ((2 ^ k - 1 : Nat) : Int)).toNat : Int) := rfl
  rw [e, BitVec.ofInt_natCast, BitVec.ofInt_natCast, BitVec.toNat_and, BitVec.toNat_ofNat, BitVec.toNat_ofNat, Nat.mod_eq_of_lt (by omega), Nat.mod_eq_of_lt (by omega), Nat.and_two_pow_sub_one_eq_mod, IntKind.wrap_i64]
  have : a % 2 ^ k < 2 ^ k := Nat.mod_lt _ (Nat.two_pow_pos k)
  rw [← Int.natCast_emod]
  omega

set_option maxHeartbeats 1000000 in
set_option maxRecDepth 100000 in
theorem unpack_in (date time : Int) (w : World) (d0 : 0 ≤ date) (d1 : date < 65536) (t0 : 0 ≤ time) (t1 : time < 65536) :
    Calls Tryd.prog 64 #[.int .u64 date, .int .u64 time] w fun e w' => e = .returned (.tuple #[(if tgood (unpackT date time) then unpackT date time else zeroT).val, .bool (tgood (unpackT date time))]) ∧ Below w.heap.size w w' := by
  obtain ⟨T, hT⟩ : ∃ T, T = unpackT date time := ⟨_, rfl⟩
  have q1 : decide (65536 ≤ date) = false := decide_eq_false (by omega)
  have q2 : decide (65536 ≤ time) = false := decide_eq_false (by omega)
  have a1 : Go.bits .and .i64 (date / 32) 15 = date / 32 % 16 := and_i64 (date / 32) 4 15 (by omega) rfl (by omega) (by omega)
  have a2 : Go.bits .and .i64 date 31 = date % 32 := and_i64 date 5 31 (by omega) rfl (by omega) (by omega)
  have a3 : Go.bits .and .i64 (time / 32) 63 = time / 32 % 64 := and_i64 (time / 32) 6 63 (by omega) rfl (by omega) (by omega)
  have a4 : Go.bits .and .i64 time 31 = time % 32 := and_i64 time 5 31 (by omega) rfl (by omega) (by omega)
  obtain ⟨y, ey⟩ : ∃ y, date / 512 + 1980 = y := ⟨_, rfl⟩
  obtain ⟨mo, emo⟩ : ∃ y, date / 32 % 16 = y := ⟨_, rfl⟩
  obtain ⟨d, ed⟩ : ∃ y, date % 32 = y := ⟨_, rfl⟩
  obtain ⟨h, eh⟩ : ∃ y, time / 2048 = y := ⟨_, rfl⟩
  obtain ⟨mi, emi⟩ : ∃ y, time / 32 % 64 = y := ⟨_, rfl⟩
  obtain ⟨s0, es0⟩ : ∃ y, time % 32 = y := ⟨_, rfl⟩
  have es1 : 0 ≤ s0 ∧ s0 < 32 := by omega
  have ew : wrap64 (s0 * 2) = s0 * 2 := by unfold wrap64; omega
  have hT2 : unpackT date time = ⟨y, mo, d, h, mi, s0 * 2⟩ := by rw [← ey, ← emo, ← ed, ← eh, ← emi, ← es0]; rfl
  rw [hT2]
  obtain ⟨s, es⟩ : ∃ y, s0 * 2 = y := ⟨_, rfl⟩
  rw [es] at ew ⊢
  clear hT hT2
  have B0 := Lib.hid (Below.refl w.heap.size w)
  replace B0 := Lib.hid (B0.out.alloc B0.out.size (.cells #[.int .i64 0, .int .i64 0, .int .i64 0, .int .i64 0, .int .i64 0, .int .i64 0] 30))
  have K0 := Blk.new w #[.int .i64 0, .int .i64 0, .int .i64 0, .int .i64 0, .int .i64 0, .int .i64 0] 30
  replace B0 := Lib.hid (B0.out.alloc B0.out.size (.cells #[.int .i64 y, .int .i64 mo, .int .i64 d, .int .i64 h, .int .i64 mi, .int .i64 s] 30))
  have K1 := Lib.hid (K0.alloc (.cells #[.int .i64 y, .int .i64 mo, .int .i64 d, .int .i64 h, .int .i64 mi, .int .i64 s] 30))
  have K2 := Lib.hid (Blk.new1 w (.cells #[.int .i64 0, .int .i64 0, .int .i64 0, .int .i64 0, .int .i64 0, .int .i64 0] 30) #[.int .i64 y, .int .i64 mo, .int .i64 d, .int .i64 h, .int .i64 mi, .int .i64 s] 30)
  clear K0
  cases hg : tgood ⟨y, mo, d, h, mi, s⟩ with
  | true =>
    go_enter Tryd.func64, Tryd.ntmps64
    go_wp2_with fail
    refine (tgood_calls ⟨y, mo, d, h, mi, s⟩ _).mono ?_
    rintro e w1 ⟨rfl, hb⟩
    rw [hg]
    replace B0 := Lib.hid (B0.out.trans (hb.mono B0.out.size))
    replace K1 := K1.out.below hb
    replace K2 := K2.out.below hb
    have c0 := K2.cell 0
    have c1 := K2.cell 1
    have c2 := K2.cell 2
    have c3 := K2.cell 3
    have c4 := K2.cell 4
    have c5 := K2.cell 5
    have z0 := K1.cell 0
    have z1 := K1.cell 1
    have z2 := K1.cell 2
    have z3 := K1.cell 3
    have z4 := K1.cell 4
    have z5 := K1.cell 5
    have f0 := K1.frozen
    replace K1 := Lib.hid K1
    replace K2 := Lib.hid K2
    simp only [List.getElem?_toArray, List.getElem?_cons_zero, List.getElem?_cons_succ] at c0 c1 c2 c3 c4 c5 z0 z1 z2 z3 z4 z5
    clear hb
    go_wp2
    exact bodyPost_ret (v := .tuple #[(⟨y, mo, d, _, mi, s⟩ : Tm).val, .bool true]) (by simp [results, Tryd.results64, go_sem, z0, z1, z2, z3, z4, z5, f0, Tm.val]) rfl ⟨rfl, (((((B0.out.setCell (by simp) _).setCell (by simp) _).setCell (by simp) _).setCell (by simp) _).setCell (by simp) _).setCell (by simp) _⟩
  | false =>
    go_enter Tryd.func64, Tryd.ntmps64
    go_wp2_with fail
    refine (tgood_calls ⟨y, mo, d, h, mi, s⟩ _).mono ?_
    rintro e w1 ⟨rfl, hb⟩
    rw [hg]
    replace B0 := Lib.hid (B0.out.trans (hb.mono B0.out.size))
    replace K1 := K1.out.below hb
    replace K2 := K2.out.below hb
    have c0 := K2.cell 0
    have c1 := K2.cell 1
    have c2 := K2.cell 2
    have c3 := K2.cell 3
    have c4 := K2.cell 4
    have c5 := K2.cell 5
    have z0 := K1.cell 0
    have z1 := K1.cell 1
    have z2 := K1.cell 2
    have z3 := K1.cell 3
    have z4 := K1.cell 4
    have z5 := K1.cell 5
    have f0 := K1.frozen
    replace K1 := Lib.hid K1
    replace K2 := Lib.hid K2
    simp only [List.getElem?_toArray, List.getElem?_cons_zero, List.getElem?_cons_succ] at c0 c1 c2 c3 c4 c5 z0 z1 z2 z3 z4 z5
    clear hb
    go_wp2
    exact bodyPost_ret (v := .tuple #[zeroT.val, .bool false]) (by simp [results, Tryd.results64, go_sem, z0, z1, z2, z3, z4, z5, f0, Tm.val, zeroT]) rfl ⟨rfl, (((((B0.out.setCell (by simp) _).setCell (by simp) _).setCell (by simp) _).setCell (by simp) _).setCell (by simp) _).setCell (by simp) _⟩

theorem unpack_calls (date time : Int) (w : World) (d0 : 0 ≤ date) (d1 : date < 65536) (t0 : 0 ≤ time) (t1 : time < 65536) :
    Calls Tryd.prog 64 #[.int .u64 date, .int .u64 time] w fun e w' => e = .returned (.tuple #[(if tgood (unpackT date time) then unpackT date time else zeroT).val, .bool (tgood (unpackT date time))]) ∧ Below w.heap.size w w' := unpack_in date time w d0 d1 t0 t1
end Go.Proofs.YtehhoigedniglaaDoor.Zp
