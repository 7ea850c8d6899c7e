/-
  The reference of layer 1: bits of a text, numbers of bits.
-/
import Derived.Test.YtmpokiflhijnoaaGreatDoorBwAdd
import Derived.Test.YtmpokiflhijnoaaGreatDoorCnPrefix
import Derived.Test.YtmpokiflhijnoaaGreatDoorZpPut
import Derived.Test.YtmpokiflhijnoaaGreatDoorBkDynP
namespace Go.Proofs.YtmpokiflhijnoaaGreatDoor.Rf
open Go.RowKit Go.Shelf Go.Proofs.YtmpokiflhijnoaaGreatDoor.Mg Go.Proofs.YtmpokiflhijnoaaGreatDoor.Bw Go.Proofs.YtmpokiflhijnoaaGreatDoor.Bk Go.Proofs.YtmpokiflhijnoaaGreatDoor.Cn
set_option linter.unusedVariables false
set_option linter.unusedSimpArgs false

def bitI (b : Bool) : Int := if b then 1 else 0
def bitsI (bs : List Bool) : List Int := bs.map bitI
theorem bitsI_len (bs : List Bool) : (bitsI bs).length = bs.length := by simp [bitsI]
theorem bitsI_get (bs : List Bool) (i : Nat) (h : i < bs.length) : (bitsI bs)[i]'(by rw [bitsI_len]; exact h) = bitI bs[i] := by simp [bitsI]
theorem bitI_range (b : Bool) : 0 ≤ bitI b ∧ bitI b ≤ 1 := by cases b <;> decide
theorem strN_get (s : ByteArray) (i : Nat) (h : i < s.size) : (strN s)[i]'(by rw [strN_len]; exact h) = s[i].toNat := by
  unfold strN
  rw [List.getElem_map]
  rfl
def strBk (s : ByteArray) (i : Nat) : List Bool := ((strN s).take i).flatMap (bitsN 8)
theorem strBk_succ (s : ByteArray) (i : Nat) (h : i < s.size) : strBk s (i + 1) = strBk s i ++ bitsN 8 s[i].toNat := by
  unfold strBk
  rw [List.take_succ_eq_append_getElem (by rw [strN_len]; exact h), List.flatMap_append, strN_get s i h]
  simp
theorem flat8_len : ∀ l : List Nat, (l.flatMap (bitsN 8)).length = 8 * l.length
  | [] => rfl
  | x :: l => by rw [List.flatMap_cons, List.length_append, bitsN_len, flat8_len l, List.length_cons]; omega
theorem strBk_len (s : ByteArray) (i : Nat) (h : i ≤ s.size) : (strBk s i).length = 8 * i := by
  unfold strBk
  rw [flat8_len, List.length_take, strN_len]
  omega
theorem strB_len (s : ByteArray) : (strB s).length = 8 * s.size := by
  unfold strB
  rw [flat8_len, strN_len]
theorem bitsN_succ (k v : Nat) : bitsN (k + 1) v = bitsN k v ++ [v.testBit k] := by
  unfold bitsN
  rw [List.range_succ, List.map_append]
  rfl
theorem bit_of (v k : Nat) : (((v / 2 ^ k : Nat) : Int) % 2) = bitI (v.testBit k) := by
  rw [Nat.testBit_eq_decide_div_mod_eq]
  unfold bitI
  have : (v / 2 ^ k) % 2 < 2 := Nat.mod_lt _ (by omega)
  split
  · rename_i h
    simp at h
    omega
  · rename_i h
    simp at h
    omega

set_option maxHeartbeats 2000000 in
set_option maxRecDepth 100000 in
theorem bits_calls (s : ByteArray) (w : World) (hs : s.size ≤ 100000000) :
    Calls Tryz.prog 25 #[.string s] w fun e w' => (∃ v, e = .returned v ∧ w'.ownsRow w.heap.size 3 1 v (8 * s.size) (intsV (bitsI (strB s)))) ∧ Below w.heap.size w w' := by
  have hii : Tryz.prog.info? 3 = some ti := by kernel_rfl
  have hiz0 : ti.zero = some (.int .i64 0) := by kernel_rfl
  have hiz1 : ti.size = 1 := by kernel_rfl
  have hiz2 : ti.bytes = 8 := by kernel_rfl
  have N0 := Lib.hid (World.ownsRow_nil w w.heap.size 3 1)
  have B0 := Lib.hid (Below.refl w.heap.size w)
  go_enter Tryz.func25, Tryz.ntmps25
  go_wp2
  go_loopw [3, 4] (fun va vi wr => ∃ i : Nat, i ≤ s.size ∧ vi = .int .i64 i ∧ wr.ownsRow w.heap.size 3 1 va (8 * i) (intsV (bitsI (strBk s i))) ∧ Below w.heap.size w wr) (fun _ vi _ => s.size - (intOf vi).toNat)
  case atStart => exact ⟨0, Nat.zero_le _, rfl, N0.out, B0.out⟩
  case round =>
    obtain ⟨i, hi, rfl, hown, hbl⟩ := hrel
    have HO := Lib.hid hown
    have HB := Lib.hid hbl
    clear hown hbl
    by_cases hlt : i < s.size
    · have q1 : decide ((i : Int) < (s.size : Int)) = true := decide_eq_true (by omega)
      have q1' : decide (i < s.size) = true := decide_eq_true hlt
      have HS := Lib.hid (strBk_succ s i hlt)
      have hx := s[i].toNat_lt
      obtain ⟨x, hx2⟩ : ∃ x, s[i].toNat = x := ⟨_, rfl⟩
      have HX := Lib.hid hx2
      rw [hx2] at HS hx
      go_upto_region 6 with fail
      clear hx2
      have HO6 : Hid (wr.ownsRow w.heap.size 3 1 u3 (8 * i + 0) (intsV (bitsI (strBk s i ++ bitsN 0 x)))) := Lib.hid (by rw [bitsN_zero, List.append_nil]; exact HO.out)
      go_wp2_with fail
      go_loopw [3, 5, 6] (fun va vv vk wx => ∃ k : Nat, k ≤ 8 ∧ vk = .int .i64 k ∧ vv = .int .i64 ((x / 2 ^ k : Nat) : Int) ∧ wx.ownsRow w.heap.size 3 1 va (8 * i + k) (intsV (bitsI (strBk s i ++ bitsN k x))) ∧ Below w.heap.size w wx) (fun _ _ vk _ => 8 - (intOf vk).toNat)
      case atStart => exact ⟨0, Nat.zero_le _, rfl, by simp, HO6.out, HB.out⟩
      case round =>
        obtain ⟨k, hk, rfl, rfl, hown, hbl⟩ := hrel
        have HO2 := Lib.hid hown
        have HB2 := Lib.hid hbl
        clear hown hbl
        by_cases hlk : k < 8
        · have p1 : decide ((k : Int) < 8) = true := decide_eq_true (by omega)
          have hbit := bit_of x k
          have hrg := bitI_range (x.testBit k)
          have hle : x / 2 ^ k ≤ x := Nat.div_le_self _ _
          have hdd : x / 2 ^ k / 2 = x / 2 ^ (k + 1) := by rw [Nat.div_div_eq_div_mul, Nat.pow_succ]
          have HDD := Lib.hid hdd
          obtain ⟨y, hy⟩ : ∃ y, x / 2 ^ k = y := ⟨_, rfl⟩
          rw [hy] at hbit hle HDD ⊢
          obtain ⟨z, hz⟩ : ∃ z, bitI (x.testBit k) = z := ⟨_, rfl⟩
          rw [hz] at hbit hrg
          have HN : Hid (intsV (bitsI (strBk s i ++ bitsN (k + 1) x)) = intsV (bitsI (strBk s i ++ bitsN k x)) ++ [.int .i64 z]) := Lib.hid (by
            rw [bitsN_succ, ← List.append_assoc]
            unfold bitsI
            rw [List.map_append, List.map_cons, List.map_nil, hz]
            exact intsV_snoc _ _)
          have htm : Int.tmod (y : Int) 2 = z := by rw [Int.tmod_eq_emod_of_nonneg (by omega)]; exact hbit
          have htd : Int.tdiv (y : Int) 2 = ((y / 2 : Nat) : Int) := by rw [Int.tdiv_eq_ediv_of_nonneg (by omega)]; rfl
          clear hdd hy hz
          go_wp2_with (at_builtin; refine wpList_append_at _ rfl _ _ 64 rfl w.heap.size 3 ti (.int .i64 0) 1 8 Tryz.underlying64 hii hiz0 hiz1 hiz2 rfl (by decide) _ _ _ rfl (HO2.out.alloc _) ⟨wr.heap.size, 0, none⟩ 1 1 [.int .i64 z] rfl rfl ?c1 ?c2 ?c3 ?c4 ?c5 ?_)
          case c1 => exact new_cells wr [.int .i64 z] _
          case c2 => simp [Value.oneCell']
          case c3 => unfold maxLen; omega
          case c4 => omega
          case c5 => have := HB2.out.size; simp; omega
          intro v3 w3 hown1 hg1 hfr
          have hbl : Below w.heap.size w w3 := (HB2.out.alloc HB2.out.size _).grown hg1 (by have := HB2.out.size; simp; omega) (fun r e => (HO2.out.lt r e).1)
          rw [← HN.out] at hown1
          obtain ⟨gv, cv, rfl, _, _⟩ := hown1.form (by omega)
          have HO7 := Lib.hid hown1
          have HB7 := Lib.hid hbl
          clear hown1 hg1 hbl hfr
          go_wp2
          go_roundw
          case rel => exact ⟨k + 1, by omega, by go_num, by rw [← HDD.out]; rfl, HO7.out, HB7.out⟩
          case measure => simp [intOf]; omega
        · obtain rfl : k = 8 := by omega
          have p1 : decide (((8 : Nat) : Int) < 8) = false := by decide
          have HO7 : Hid (wr.ownsRow w.heap.size 3 1 u3 (8 * (i + 1)) (intsV (bitsI (strBk s (i + 1))))) := Lib.hid (by
            rw [HS.out, show 8 * (i + 1) = 8 * i + 8 by omega]
            exact HO2.out)
          go_wp2
          go_roundw
          case rel => exact ⟨i + 1, by omega, by go_num, HO7.out, HB2.out⟩
          case measure => simp [intOf]; omega
    · obtain rfl : i = s.size := by omega
      have q1 : decide ((s.size : Int) < (s.size : Int)) = false := decide_eq_false (by omega)
      have HF : Hid (wr.ownsRow w.heap.size 3 1 u3 (8 * s.size) (intsV (bitsI (strB s)))) := Lib.hid (by
        have e : strBk s s.size = strB s := by
          unfold strBk strB
          rw [List.take_of_length_le (by rw [strN_len]; exact Nat.le_refl _)]
        rw [← e]
        exact HO.out)
      go_wp2
      go_ret
      exact ⟨⟨_, rfl, HF.out⟩, HB.out⟩

/-- The number of bits, the lowest first. -/
def numB : List Bool → Nat
  | [] => 0
  | b :: bs => 2 * numB bs + (if b then 1 else 0)
theorem numB_lt : ∀ bs : List Bool, numB bs < 2 ^ bs.length
  | [] => by decide
  | b :: bs => by
    have := numB_lt bs
    rw [numB, List.length_cons, Nat.pow_succ]
    split <;> omega
theorem numB_bits : ∀ (n v : Nat), numB (bitsN n v) = v % 2 ^ n
  | 0, v => by rw [bitsN_zero, Nat.pow_zero, Nat.mod_one]; rfl
  | n + 1, v => by
    have e : bitsN (n + 1) v = decide (v % 2 = 1) :: bitsN n (v / 2) := by
      have := bitsN_cons n (v / 2) (v % 2) (Nat.mod_lt _ (by omega))
      rw [← this]
      congr 1
      omega
    rw [e, numB, numB_bits n (v / 2), Nat.pow_succ]
    have h1 : v % (2 ^ n * 2) = v % 2 + 2 * (v / 2 % 2 ^ n) := by
      rw [Nat.mul_comm, Nat.mod_mul]
    rw [h1]
    have h2 : v % 2 < 2 := Nat.mod_lt _ (by omega)
    split
    · rename_i h; simp at h; omega
    · rename_i h; simp at h; omega
theorem numB_drop (bs : List Bool) (i : Nat) (h : i < bs.length) : numB (bs.drop i) = 2 * numB (bs.drop (i + 1)) + (if bs[i] then 1 else 0) := by
  rw [List.drop_eq_getElem_cons h, numB]

/-- A row of bits that is read. -/
def BitsAt (w : World) (A : Option Addr) (bs : List Bool) : Prop := Reads w A (bitsI bs)
theorem BitsAt.below {w w' : World} {A : Option Addr} {bs : List Bool} (h : BitsAt w A bs) (hb : Below w.heap.size w w') : BitsAt w' A bs := Reads.below h hb

set_option maxHeartbeats 1000000 in
set_option maxRecDepth 100000 in
theorem number_calls (A : Option Addr) (c : Nat) (bs : List Bool) (w : World) (hA : BitsAt w A bs) (hl : bs.length ≤ 60) :
    Calls Tryz.prog 82 #[.slice A bs.length c] w fun e w' => e = .returned (.int .u64 (numB bs : Nat)) ∧ w' = w := by
  have HA := Lib.hid hA
  obtain ⟨n, hn⟩ : ∃ n, bs.length = n := ⟨_, rfl⟩
  have HN := Lib.hid hn
  rw [hn] at hl ⊢
  have HE : Hid (numB (bs.drop n) = 0) := Lib.hid (by rw [List.drop_of_length_le (by omega)]; rfl)
  clear hA hn
  go_enter Tryz.func82, Tryz.ntmps82
  go_wp2
  go_loop [3, 4] (fun vn vi => ∃ k : Nat, k ≤ n ∧ vi = .int .i64 ((k : Int) - 1) ∧ vn = .int .u64 (numB (bs.drop k) : Nat)) (fun _ vi => (intOf vi + 1).toNat)
  case atStart => exact ⟨n, Nat.le_refl _, by go_num, by rw [HE.out]; rfl⟩
  case round =>
    obtain ⟨k, hk, rfl, rfl⟩ := hrel
    rcases Nat.eq_zero_or_pos k with rfl | hp
    · go_wp2
      go_ret
      exact ⟨rfl, rfl⟩
    · obtain ⟨j, rfl⟩ : ∃ j, k = j + 1 := ⟨k - 1, by omega⟩
      have j1 : j < bs.length := by rw [HN.out]; omega
      have HD := Lib.hid (numB_drop bs j j1)
      have hlt := numB_lt (bs.drop (j + 1))
      have hpw : 2 ^ (bs.drop (j + 1)).length ≤ 2 ^ 60 := Nat.pow_le_pow_right (by omega) (by rw [List.length_drop]; have := HN.out; omega)
      have h60 : (2 : Nat) ^ 60 = 1152921504606846976 := by decide
      have hm : numB (bs.drop (j + 1)) < 1152921504606846976 := by omega
      obtain ⟨g, o, rfl, hcell⟩ := HA.out j (by rw [bitsI_len]; exact j1)
      rw [bitsI_get bs j j1] at hcell
      obtain ⟨b, hb⟩ : ∃ b, bs[j] = b := ⟨_, rfl⟩
      rw [hb] at hcell HD
      generalize numB (bs.drop (j + 1)) = m at *
      have ej : ((j + 1 : Nat) : Int) - 1 = (j : Int) := by omega
      rw [ej]
      have q3 : decide ((0 : Int) ≤ (j : Int)) = true := decide_eq_true (by omega)
      have i1 : (j : Int) < (n : Int) := by omega
      clear ej hb hlt hpw
      cases b with
      | false =>
        have e : bitI false = 0 := rfl
        rw [e] at hcell
        go_wp2
        go_round
        case rel => exact ⟨j, by omega, by go_num, by rw [HD.out]; simp⟩
        case measure => simp [intOf]
      | true =>
        have e : bitI true = 1 := rfl
        rw [e] at hcell
        go_wp2
        go_round
        case rel => exact ⟨j, by omega, by go_num, by rw [HD.out]; simp⟩
        case measure => simp [intOf]
end Go.Proofs.YtmpokiflhijnoaaGreatDoor.Rf

/-
  The reference of layer 7: bits as a text; numbers.
-/
namespace Go.Proofs.YtmpokiflhijnoaaGreatDoor.Rf
open Go.RowKit Go.Shelf Go.Proofs.YtmpokiflhijnoaaGreatDoor.Mg Go.Proofs.YtmpokiflhijnoaaGreatDoor.Bw Go.Proofs.YtmpokiflhijnoaaGreatDoor.Bk Go.Proofs.YtmpokiflhijnoaaGreatDoor.Cn Go.Proofs.YtmpokiflhijnoaaGreatDoor.Zp
set_option linter.unusedVariables false
set_option linter.unusedSimpArgs false

set_option maxRecDepth 100000 in
theorem conv_one (v : Int) (W : World) : (convert 39 9 (.slice (some ⟨W.heap.size, 0, none⟩) 1 1)).run Tryz.prog (W.alloc (.cells #[.int .u8 v] 5)) = .ok (.string (strOfNums [v])) (W.alloc (.cells #[.int .u8 v] 5)) := by
  have hcell : ∀ i, i < 1 → (W.alloc (.cells #[.int .u8 v] 5)).cell? ⟨W.heap.size, 0 + i, none⟩ = some (.int .u8 (([v] : List Int).getD i 0)) := fun i hi => by
    obtain rfl : i = 0 := by omega
    simp only [World.cell?]
    rw [World.alloc_heap_new]
    rfl
  exact run_convert_bytes_arg (P := Tryz.prog) (w := W.alloc (.cells #[.int .u8 v] 5)) 39 5 Tryz.underlying39 Tryz.underlying5 W.heap.size 0 1 1 [v] rfl hcell 9 Tryz.underlying9

/-- Bits as a text of 0 and 1. -/
def txt (bs : List Bool) : ByteArray := strOfNums (bs.map fun b => 48 + bitI b)
theorem nums_app (a b : List Int) : strOfNums (a ++ b) = strOfNums a ++ strOfNums b := by
  apply ByteArray.ext
  rw [ByteArray.data_append]
  apply Array.ext'
  rw [Array.toList_append, strOfNums_data, strOfNums_data, strOfNums_data, List.map_append]
theorem txt_app (a b : List Bool) : txt (a ++ b) = txt a ++ txt b := by
  unfold txt
  rw [List.map_append, nums_app]
theorem txt_size (a : List Bool) : (txt a).size = a.length := by
  unfold txt
  rw [strOfNums_size, List.length_map]
theorem txt_nil : txt [] = ⟨#[]⟩ := rfl
theorem txt_one (b : Bool) : txt [b] = strOfNums [48 + bitI b] := rfl
theorem txt_inj {a b : List Bool} (h : txt a = txt b) : a = b := by
  have h1 : (txt a).data.toList = (txt b).data.toList := by rw [h]
  unfold txt at h1
  rw [strOfNums_data, strOfNums_data, List.map_map, List.map_map] at h1
  have hinj : ∀ x y : Bool, ((fun n : Int => UInt8.ofNat n.toNat) ∘ fun b => 48 + bitI b) x = ((fun n : Int => UInt8.ofNat n.toNat) ∘ fun b => 48 + bitI b) y → x = y := by decide
  exact (List.map_inj_right (fun x y h => hinj x y h)).1 h1

set_option maxHeartbeats 2000000 in
set_option maxRecDepth 100000 in
theorem text_calls (A : Option Addr) (c : Nat) (bs : List Bool) (at' most : Nat) (w : World) (hA : BitsAt w A bs) (hl : bs.length ≤ 1000000000000) (ha : at' ≤ 1000000000000) (hm : most ≤ 1000) :
    Calls Tryz.prog 81 #[.slice A bs.length c, .int .i64 at', .int .i64 most] w fun e w' => e = .returned (.string (txt ((bs.drop at').take most))) ∧ Below w.heap.size w w' := by
  have HA : Hid (∀ W, Below w.heap.size w W → BitsAt W A bs) := Lib.hid (fun W h => hA.below h)
  obtain ⟨n, hn⟩ : ∃ n, bs.length = n := ⟨_, rfl⟩
  have HN := Lib.hid hn
  have B0 := Lib.hid (Below.refl w.heap.size w)
  rw [hn] at hl ⊢
  clear hA hn
  go_enter Tryz.func81, Tryz.ntmps81
  go_wp2
  go_loopw [7, 8] (fun vs vi wr => ∃ k : Nat, k ≤ most ∧ vi = .int .i64 ((at' + k : Nat) : Int) ∧ vs = .string (txt ((bs.drop at').take k)) ∧ (k = 0 ∨ at' + k ≤ n) ∧ Below w.heap.size w wr) (fun _ vi _ => at' + most - (intOf vi).toNat)
  case atStart => exact ⟨0, Nat.zero_le _, rfl, rfl, .inl rfl, B0.out⟩
  case round =>
    obtain ⟨k, hk, rfl, rfl, hkn, hb⟩ := hrel
    have HB := Lib.hid hb
    clear hb
    obtain ⟨p, hp⟩ : ∃ p, at' + k = p := ⟨_, rfl⟩
    rw [hp] at hkn ⊢
    have HP := Lib.hid hp
    by_cases hlt : p < n
    · have q1 : decide ((p : Int) < (n : Int)) = true := decide_eq_true (by omega)
      have q1' : decide (p < n) = true := decide_eq_true hlt
      by_cases hkm : k < most
      · have q2 : decide ((p : Int) < (at' : Int) + (most : Int)) = true := decide_eq_true (by omega)
        have q2' : decide (p < at' + most) = true := decide_eq_true (by omega)
        have p1 : p < bs.length := by rw [HN.out]; exact hlt
        obtain ⟨g, o, rfl, hcell⟩ := HA.out wr HB.out p (by rw [bitsI_len]; exact p1)
        rw [bitsI_get bs p p1] at hcell
        have HT : Hid (txt ((bs.drop at').take (k + 1)) = txt ((bs.drop at').take k) ++ strOfNums [48 + bitI bs[p]]) := Lib.hid (by
          have hk1 : k < (bs.drop at').length := by rw [List.length_drop]; omega
          rw [List.take_succ_eq_append_getElem hk1, txt_app, txt_one, List.getElem_drop]
          congr 4
          simp only [hp])
        have hr := bitI_range bs[p]
        obtain ⟨z, hz⟩ : ∃ z, bitI bs[p] = z := ⟨_, rfl⟩
        rw [hz] at hcell HT hr
        have hc := conv_one (48 + z) wr
        have s1 : (txt ((bs.drop at').take k)).size ≤ 1000 := by rw [txt_size, List.length_take]; omega
        have s2 : (strOfNums [48 + z]).size = 1 := by rw [strOfNums_size]; rfl
        have i0 : (0 : Int) ≤ (p : Int) := by omega
        have i1 : (p : Int) < (n : Int) := by omega
        have e8 : IntKind.u8.wrap (48 + z) = 48 + z := by rw [IntKind.wrap_u8]; omega
        clear hz
        go_wp2
        go_roundw
        case rel => exact ⟨k + 1, by omega, by have := HP.out; go_num, by rw [HT.out], .inr (by omega), HB.out.alloc HB.out.size _⟩
        case measure => have := HP.out; simp [intOf]; omega
      · have q2 : decide ((p : Int) < (at' : Int) + (most : Int)) = false := decide_eq_false (by omega)
        have q2' : decide (p < at' + most) = false := decide_eq_false (by omega)
        obtain rfl : k = most := by omega
        go_wp2
        go_ret
        exact ⟨rfl, HB.out⟩
    · have q1 : decide ((p : Int) < (n : Int)) = false := decide_eq_false (by omega)
      have q1' : decide (p < n) = false := decide_eq_false hlt
      have HT : Hid ((bs.drop at').take k = (bs.drop at').take most) := Lib.hid (by
        have hd : (bs.drop at').length ≤ k := by rw [List.length_drop]; have := HN.out; omega
        rw [List.take_of_length_le hd, List.take_of_length_le (by omega)])
      rw [HT.out]
      go_wp2
      go_ret
      exact ⟨rfl, HB.out⟩

set_option maxHeartbeats 1000000 in
set_option maxRecDepth 100000 in
theorem num_calls (g o c : Nat) (bs : List Bool) (at' n : Nat) (w : World) (hA : BitsAt w (some ⟨g, o, none⟩) bs) (hc : bs.length ≤ c) (hl : bs.length ≤ 1000000000000) (hn : n ≤ 32) (h : at' + n ≤ bs.length) :
    Calls Tryz.prog 48 #[.slice (some ⟨g, o, none⟩) bs.length c, .int .i64 at', .int .i64 n] w fun e w' => e = .returned (.tuple #[.int .i64 (numB ((bs.drop at').take n) : Nat), .bool true]) ∧ w' = w := by
  have hlen : ((bs.drop at').take n).length = n := by rw [List.length_take, List.length_drop]; omega
  have HNC : Hid (∀ o2 c2, (n = 0 ∨ o2 = o + at') → Calls Tryz.prog 82 #[.slice (some ⟨g, o2, none⟩) n c2] w fun e w' => e = .returned (.int .u64 (numB ((bs.drop at').take n) : Nat)) ∧ w' = w) := Lib.hid (fun o2 c2 ho => by
    have hB : BitsAt w (some ⟨g, o2, none⟩) ((bs.drop at').take n) := fun j hj => by
      have hj2 : j < n := by rw [bitsI_len, hlen] at hj; exact hj
      have ho2 : o2 = o + at' := by rcases ho with h0 | h0; omega; exact h0
      obtain ⟨g', o', e, hcell⟩ := hA (at' + j) (by rw [bitsI_len]; omega)
      cases e
      refine ⟨g, o2, rfl, ?_⟩
      rw [ho2, show o + at' + j = o + (at' + j) by omega, hcell, bitsI_get _ _ (by omega), bitsI_get _ _ (by omega), List.getElem_take, List.getElem_drop]
    have hx := number_calls (some ⟨g, o2, none⟩) c2 _ w hB (by omega)
    rw [hlen] at hx
    exact hx)
  have hlt := numB_lt ((bs.drop at').take n)
  rw [hlen] at hlt
  have h32 : 2 ^ n ≤ 2 ^ 32 := Nat.pow_le_pow_right (by omega) hn
  have e32 : (2 : Nat) ^ 32 = 4294967296 := by decide
  obtain ⟨N, hN⟩ : ∃ N, numB ((bs.drop at').take n) = N := ⟨_, rfl⟩
  rw [hN] at HNC hlt ⊢
  have hNb : N < 4294967296 := by omega
  obtain ⟨L, hL⟩ : ∃ L, bs.length = L := ⟨_, rfl⟩
  rw [hL] at hc h hl ⊢
  have q1 : decide ((L : Int) < (at' : Int) + (n : Int)) = false := decide_eq_false (by omega)
  have q1' : decide (L < at' + n) = false := decide_eq_false (by omega)
  have i1 : (at' : Int) ≤ (at' : Int) + (n : Int) := by omega
  have i2 : (at' : Int) + (n : Int) ≤ (c : Int) := by omega
  clear hA hlen h32 hlt hN hL
  rcases Nat.lt_or_ge at' c with hac | hac
  · have HX := Lib.hid (HNC.out (o + at') (c - at') (.inr rfl))
    have e1 : c - at' ≠ 0 := by omega
    have e2 : ¬ c ≤ at' := by omega
    clear HNC
    go_enter Tryz.func48, Tryz.ntmps48
    go_wp2_with fail
    refine HX.out.mono ?_
    rintro e w1 ⟨rfl, rfl⟩
    go_wp2
    go_ret2
    exact ⟨rfl, rfl⟩
  · have HX := Lib.hid (HNC.out o 0 (.inl (by omega)))
    obtain rfl : at' = c := by omega
    obtain rfl : n = 0 := by omega
    clear HNC
    go_enter Tryz.func48, Tryz.ntmps48
    go_wp2_with fail
    refine HX.out.mono ?_
    rintro e w1 ⟨rfl, rfl⟩
    go_wp2
    go_ret2
    exact ⟨rfl, rfl⟩
end Go.Proofs.YtmpokiflhijnoaaGreatDoor.Rf

/-
  The reference of layer 3: the words of lengths, as texts.
-/
namespace Go.Proofs.YtmpokiflhijnoaaGreatDoor.Rf
open Go.RowKit Go.Shelf Go.Proofs.YtmpokiflhijnoaaGreatDoor.Mg Go.Proofs.YtmpokiflhijnoaaGreatDoor.Bw Go.Proofs.YtmpokiflhijnoaaGreatDoor.Bk Go.Proofs.YtmpokiflhijnoaaGreatDoor.Cn Go.Proofs.YtmpokiflhijnoaaGreatDoor.Zp
set_option linter.unusedVariables false
set_option linter.unusedSimpArgs false

/-- A made row of texts. -/
def strC (n : Nat) (f : Nat → ByteArray) : Array Value := ((List.range n).map fun i => Value.string (f i)).toArray
def RowS (w : World) (B n : Nat) (f : Nat → ByteArray) : Prop := w.heap[B]? = some (.cells (strC n f) 9 (0, 0))
theorem strC_get (n : Nat) (f : Nat → ByteArray) (i : Nat) (h : i < n) : (strC n f)[i]? = some (.string (f i)) := by
  unfold strC
  simp [h]
theorem RowS.cell {w : World} {B n : Nat} {f : Nat → ByteArray} (h : RowS w B n f) (i : Nat) (hi : i < n) : w.cell? ⟨B, i, none⟩ = some (.string (f i)) ∧ w.frozen? ⟨B, i, none⟩ = false := cell_at h i _ (strC_get n f i hi)
theorem RowS.below {w w' : World} {B n : Nat} {f : Nat → ByteArray} (h : RowS w B n f) (hb : Below w.heap.size w w') : RowS w' B n f := (hb.block B (Array.getElem?_eq_some_iff.1 h).1).trans h
theorem RowS.set {w : World} {B n : Nat} {f : Nat → ByteArray} (h : RowS w B n f) (i : Nat) (s : ByteArray) (g : Nat → ByteArray) (hg : ∀ j, j < n → g j = if j = i then s else f j) : RowS (w.setCell ⟨B, i, none⟩ (.string s)) B n g := by
  have h2 := heap_setCell_same w B i _ _ (.string s) h
  have e : (strC n f).setIfInBounds i (.string s) = strC n g := by
    apply Array.ext_getElem?
    intro j
    rw [Array.getElem?_setIfInBounds]
    have hsz : (strC n f).size = n := by simp [strC]
    by_cases hj : j < n
    · rw [strC_get n g j hj, hg j hj]
      by_cases hij : i = j
      · subst hij
        rw [if_pos rfl, if_pos (by rw [hsz]; exact hj), if_pos rfl]
      · rw [if_neg hij, if_neg (Ne.symm hij), strC_get n f j hj]
    · have h3 : (strC n g)[j]? = none := Array.getElem?_eq_none (by simp [strC]; omega)
      have h4 : (strC n f)[j]? = none := Array.getElem?_eq_none (by simp [strC]; omega)
      rw [h3, h4]
      split
      · split
        · rename_i h5 h6; rw [hsz] at h6; omega
        · rfl
      · rfl
  unfold RowS
  rw [← e]
  exact h2
/-- The words of less than m bits, and those of m bits of the first k symbols. -/
def upW (ls : List Int) (m k s : Nat) : List Bool := if 1 ≤ ls.getD s 0 ∧ (ls.getD s 0 < m ∨ ls.getD s 0 = m ∧ s < k) then wordB ls s else []
theorem upW_start (ls : List Int) (s : Nat) : upW ls 1 0 s = [] := by
  unfold upW
  rw [if_neg]
  omega
theorem upW_next (ls : List Int) (m s : Nat) (hs : s < ls.length) : upW ls m ls.length s = upW ls (m + 1) 0 s := by
  unfold upW
  have e : (1 ≤ ls.getD s 0 ∧ (ls.getD s 0 < (m : Int) ∨ ls.getD s 0 = (m : Int) ∧ s < ls.length)) ↔ (1 ≤ ls.getD s 0 ∧ (ls.getD s 0 < ((m + 1 : Nat) : Int) ∨ ls.getD s 0 = ((m + 1 : Nat) : Int) ∧ s < 0)) := by
    constructor <;> intro h <;> omega
  simp only [e]
theorem upW_end (ls : List Int) (s : Nat) : upW ls 16 0 s = wordB ls s := by
  unfold upW
  split
  · rfl
  · rename_i h
    unfold wordB wordP
    rw [if_neg (by omega)]
    rfl
theorem upW_no (ls : List Int) (m k : Nat) (h : ls.getD k 0 ≠ (m : Int)) (s : Nat) : upW ls m (k + 1) s = upW ls m k s := by
  unfold upW
  have e : (1 ≤ ls.getD s 0 ∧ (ls.getD s 0 < (m : Int) ∨ ls.getD s 0 = (m : Int) ∧ s < k + 1)) ↔ (1 ≤ ls.getD s 0 ∧ (ls.getD s 0 < (m : Int) ∨ ls.getD s 0 = (m : Int) ∧ s < k)) := by
    constructor
    · rintro ⟨h1, h2 | ⟨h2, h3⟩⟩
      · exact ⟨h1, .inl h2⟩
      · refine ⟨h1, .inr ⟨h2, ?_⟩⟩
        rcases Nat.lt_or_ge s k with h4 | h4
        · exact h4
        · obtain rfl : s = k := by omega
          exact absurd h2 h
    · rintro ⟨h1, h2 | ⟨h2, h3⟩⟩
      · exact ⟨h1, .inl h2⟩
      · exact ⟨h1, .inr ⟨h2, by omega⟩⟩
  simp only [e]
theorem upW_yes (ls : List Int) (m k : Nat) (h : ls.getD k 0 = (m : Int)) (hm : 1 ≤ m) (s : Nat) : upW ls m (k + 1) s = if s = k then wordB ls k else upW ls m k s := by
  by_cases hs : s = k
  · subst hs
    rw [if_pos rfl]
    unfold upW
    rw [h, if_pos ⟨by omega, .inr ⟨rfl, by omega⟩⟩]
  · rw [if_neg hs]
    unfold upW
    have e : (1 ≤ ls.getD s 0 ∧ (ls.getD s 0 < (m : Int) ∨ ls.getD s 0 = (m : Int) ∧ s < k + 1)) ↔ (1 ≤ ls.getD s 0 ∧ (ls.getD s 0 < (m : Int) ∨ ls.getD s 0 = (m : Int) ∧ s < k)) := by
      constructor <;> rintro ⟨h1, h2 | ⟨h2, h3⟩⟩
      · exact ⟨h1, .inl h2⟩
      · exact ⟨h1, .inr ⟨h2, by omega⟩⟩
      · exact ⟨h1, .inl h2⟩
      · exact ⟨h1, .inr ⟨h2, by omega⟩⟩
    simp only [e]
theorem msbL_cons (k c : Nat) : msbL (k + 1) c = decide (c / 2 ^ k % 2 = 1) :: msbL k c := by
  rw [Nat.add_comm k 1, msbL_split 1 k c]
  rfl

set_option maxHeartbeats 4000000 in
set_option maxRecDepth 100000 in
theorem words_calls (A : Option Addr) (c : Nat) (ls : List Int) (w : World) (hA : Reads w A ls) (hl : ls.length ≤ 288) (hin : ∀ x ∈ ls, 0 ≤ x ∧ x ≤ 15) :
    Calls Tryz.prog 44 #[.slice A ls.length c] w fun e w' => ∃ B, e = .returned (.slice (some ⟨B, 0, none⟩) ls.length ls.length) ∧ RowS w' B ls.length (fun s => txt (wordB ls s)) ∧ w.heap.size ≤ B ∧ Below w.heap.size w w' := by
  have HA : Hid (∀ W, Below w.heap.size w W → Reads W A ls) := Lib.hid (fun W h => hA.below h)
  have HIN := Lib.hid hin
  obtain ⟨n, hn⟩ : ∃ n, ls.length = n := ⟨_, rfl⟩
  have HN := Lib.hid hn
  obtain ⟨i0, hi, hz0, hz1, hz2⟩ := info_parts (show (Tryz.prog.info? 9).map (fun i => (i.zero, i.size, i.bytes)) = some (some (.string ⟨#[]⟩), 1, 16) by kernel_rfl)
  have hz : madeCells #[.string ⟨#[]⟩] n = strC n (fun s => txt (upW ls 1 0 s)) := by
    apply Array.ext_getElem?
    intro i
    simp only [strC, madeCells, upW_start, txt_nil]
    by_cases h : i < n
    · simp [h, Nat.mod_one]
    · simp [h]
  have hmk : ∀ W : World, (Instr.makeSlice 30 (.int .i64 n) (.int .i64 n)).run Tryz.prog W = .ok (.slice (some ⟨W.heap.size, 0, none⟩) n n) (W.alloc (.cells (strC n (fun s => txt (upW ls 1 0 s))) 9)) := fun W => by
    have := run_make (P := Tryz.prog) W 30 9 i0 (.string ⟨#[]⟩) Tryz.underlying30 hi hz0 .i64 .i64 n n (by omega) (by omega) (by rw [hz2]; omega) (by omega)
    rw [← hz]
    simpa [hz1, Value.cells] using this
  have HMK := Lib.hid (hmk w)
  have hmw := hmk w
  rw [hn] at hl ⊢
  clear hA hin hn hi hz0 hz1 hz2 hz hmk
  go_enter Tryz.func44, Tryz.ntmps44
  go_upto_region 2 with fail
  obtain ⟨B, hB⟩ : ∃ B, w.heap.size = B := ⟨_, rfl⟩
  have HR0 : Hid (RowS (w.alloc (.cells (strC n (fun s => txt (upW ls 1 0 s))) 9)) B n (fun s => txt (upW ls 1 0 s))) := Lib.hid (by rw [← hB]; exact World.alloc_heap_new _ _)
  have HB0 : Hid (Below w.heap.size w (w.alloc (.cells (strC n (fun s => txt (upW ls 1 0 s))) 9))) := Lib.hid ((Below.refl _ _).alloc (Nat.le_refl _) _)
  obtain ⟨w0, hw0⟩ : ∃ w0, w.alloc (.cells (strC n (fun s => txt (upW ls 1 0 s))) 9) = w0 := ⟨_, rfl⟩
  rw [hw0] at HR0 HB0 ⊢
  rw [hB]
  have HBB := Lib.hid hB
  have HSx : Hid (2 * 0 = nxP ls 1) := Lib.hid (by simp [nxP])
  clear hw0 hmw HMK hB
  go_wp2_with fail
  go_loopw [4, 5] (fun vx vm wr => ∃ m x : Nat, 1 ≤ m ∧ m ≤ 16 ∧ vm = .int .i64 m ∧ vx = .int .i64 x ∧ 2 * x = nxP ls m ∧ RowS wr B n (fun s => txt (upW ls m 0 s)) ∧ Below w.heap.size w wr) (fun _ vm _ => 16 - (intOf vm).toNat)
  case atStart => exact ⟨1, 0, Nat.le_refl _, by omega, rfl, rfl, HSx.out, HR0.out, HB0.out⟩
  case round =>
    obtain ⟨m, x, hm1, hm16, rfl, rfl, hx, hr, hb⟩ := hrel
    have HX := Lib.hid hx
    have HR := Lib.hid hr
    have HB := Lib.hid hb
    clear hr hb
    by_cases hlt : m ≤ 15
    · have q1 : decide ((m : Int) ≤ 15) = true := decide_eq_true (by omega)
      have hnb := code_bound ls m 0 hlt (by have := HN.out; omega)
      have hxb : x ≤ 100000000 := by omega
      clear hx hnb
      have HS2 : Hid (2 * x = nxP ls m + cntL (ls.take 0) m) := Lib.hid (by rw [HX.out]; simp [cntL])
      go_wp2_with fail
      go_loopw [4, 6] (fun vx vk wx => ∃ k y : Nat, k ≤ n ∧ vk = .int .i64 k ∧ vx = .int .i64 y ∧ y = nxP ls m + cntL (ls.take k) m ∧ RowS wx B n (fun s => txt (upW ls m k s)) ∧ Below w.heap.size w wx) (fun _ vk _ => n - (intOf vk).toNat)
      case atStart => exact ⟨0, 2 * x, Nat.zero_le _, rfl, by go_num, HS2.out, HR.out, HB.out⟩
      case round =>
        obtain ⟨k, y, hk, rfl, rfl, hy, hr, hb⟩ := hrel
        have HR2 := Lib.hid hr
        have HB2 := Lib.hid hb
        have HY := Lib.hid hy
        have hyb := code_bound ls m k hlt (by have := HN.out; omega)
        rw [← hy] at hyb
        clear hr hb hy
        by_cases hlk : k < n
        · have p1 : decide ((k : Int) < (n : Int)) = true := decide_eq_true (by omega)
          have p1' : decide (k < n) = true := decide_eq_true hlk
          have k1 : k < ls.length := by rw [HN.out]; exact hlk
          obtain ⟨g, o, rfl, hcell⟩ := HA.out _ HB2.out k k1
          have hgd : ls.getD k 0 = ls[k] := getD_of k1
          obtain ⟨z, hz⟩ : ∃ z, ls[k] = z := ⟨_, rfl⟩
          rw [hz] at hcell hgd
          have i0 : (0 : Int) ≤ (k : Int) := by omega
          have i1 : (k : Int) < (n : Int) := by omega
          clear hz
          by_cases hzm : z = (m : Int)
          · subst hzm
            have e1 : ((m : Int) == (m : Int)) = true := beq_self_eq_true _
            have HW := Lib.hid (wordB_msb ls k m hgd hm1 hlt)
            have hcode : codeP ls k = y := by
              unfold codeP
              rw [hgd, Int.toNat_natCast]
              exact HY.out.symm
            rw [hcode] at HW
            have HUP := Lib.hid (upW_yes ls m k hgd hm1)
            have HCT := Lib.hid (cnt_take_yes ls m k k1 hgd)
            have T0 : Hid (Value.string ⟨#[]⟩ = .string (txt (msbL 0 y))) := Lib.hid rfl
            have Y0 : Hid (((y : Nat) : Int) = ((y / 2 ^ 0 : Nat) : Int)) := Lib.hid (by rw [Nat.pow_zero, Nat.div_one])
            clear hgd hcode
            go_wp2_with fail
            go_loopw [7, 8, 9] (fun vs vv vj wz => ∃ j : Nat, j ≤ m ∧ vj = .int .i64 j ∧ vs = .string (txt (msbL j y)) ∧ vv = .int .i64 ((y / 2 ^ j : Nat) : Int) ∧ RowS wz B n (fun s => txt (upW ls m k s)) ∧ Below w.heap.size w wz) (fun _ _ vj _ => m - (intOf vj).toNat)
            case atStart => exact ⟨0, Nat.zero_le _, rfl, T0.out, by rw [← Y0.out], HR2.out, HB2.out⟩
            case round =>
              obtain ⟨j, hj, rfl, rfl, rfl, hr, hb⟩ := hrel
              have HR3 := Lib.hid hr
              have HB3 := Lib.hid hb
              clear hr hb
              by_cases hlj : j < m
              · have p2 : decide ((j : Int) < (m : Int)) = true := decide_eq_true (by omega)
                have p2' : decide (j < m) = true := decide_eq_true hlj
                have hle : y / 2 ^ j ≤ y := Nat.div_le_self _ _
                have hdd : y / 2 ^ j / 2 = y / 2 ^ (j + 1) := by rw [Nat.div_div_eq_div_mul, Nat.pow_succ]
                have HDD := Lib.hid hdd
                have HMC : Hid (txt (msbL (j + 1) y) = strOfNums [48 + ((y / 2 ^ j : Nat) : Int) % 2] ++ txt (msbL j y)) := Lib.hid (by
                  rw [msbL_cons, ← List.singleton_append, txt_app, txt_one]
                  congr 3
                  have h2 : (y / 2 ^ j) % 2 < 2 := Nat.mod_lt _ (by omega)
                  by_cases h1 : (y / 2 ^ j) % 2 = 1
                  · rw [decide_eq_true h1]
                    show 48 + 1 = _
                    omega
                  · rw [decide_eq_false h1]
                    show 48 + 0 = _
                    omega)
                obtain ⟨u, hu⟩ : ∃ u, y / 2 ^ j = u := ⟨_, rfl⟩
                rw [hu] at hle HDD HMC ⊢
                have hc := conv_one (48 + (u : Int) % 2) wr
                have s1 : (txt (msbL j y)).size ≤ 1000 := by rw [txt_size, msbL_len]; omega
                have s2 : (strOfNums [48 + (u : Int) % 2]).size = 1 := by rw [strOfNums_size]; rfl
                have htm : Int.tmod (u : Int) 2 = (u : Int) % 2 := Int.tmod_eq_emod_of_nonneg (by omega)
                have htd : Int.tdiv (u : Int) 2 = ((u / 2 : Nat) : Int) := by rw [Int.tdiv_eq_ediv_of_nonneg (by omega)]; rfl
                have e8 : IntKind.u8.wrap (48 + (u : Int) % 2) = 48 + (u : Int) % 2 := by rw [IntKind.wrap_u8]; omega
                clear hdd hu
                go_wp2
                go_roundw
                case rel => exact ⟨j + 1, by omega, by go_num, by rw [HMC.out], by rw [← HDD.out]; rfl, HR3.out.below ((Below.refl _ _).alloc (Nat.le_refl _) _), HB3.out.alloc HB3.out.size _⟩
                case measure => simp [intOf]; omega
              · obtain rfl : j = m := by omega
                have p2 : decide ((j : Int) < (j : Int)) = false := decide_eq_false (by omega)
                obtain ⟨sc, sf⟩ := HR3.out.cell k (by omega)
                have HSet := Lib.hid (HR3.out.set k (txt (msbL j y)) (fun s => txt (upW ls j (k + 1) s)) (fun s hs => by
                  rw [HUP.out s]
                  split
                  · rw [HW.out]
                  · rfl))
                have hBw : w.heap.size ≤ B := by have := HBB.out; omega
                go_wp2
                go_roundw
                case rel => exact ⟨k + 1, y + 1, by omega, by go_num, by go_num, by rw [HCT.out, HY.out, Nat.add_assoc], HSet.out, HB3.out.setCell (p := ⟨B, k, none⟩) hBw _⟩
                case measure => simp [intOf]; omega
          · have e1 : (z == (m : Int)) = false := beq_eq_false_iff_ne.2 hzm
            have HUP := Lib.hid (fun s => upW_no ls m k (by rw [hgd]; exact hzm) s)
            have HCT := Lib.hid (cnt_take_no ls m k k1 (by rw [hgd]; exact hzm))
            clear hgd
            go_wp2
            go_roundw
            case rel => exact ⟨k + 1, y, by omega, by go_num, rfl, by rw [HCT.out]; exact HY.out, by simp only [HUP.out]; exact HR2.out, HB2.out⟩
            case measure => simp [intOf]; omega
        · obtain rfl : k = n := by omega
          have p1 : decide ((k : Int) < (k : Int)) = false := decide_eq_false (by omega)
          have HNX : Hid (2 * y = nxP ls (m + 1)) := Lib.hid (by
            rw [nxP, if_neg (by omega), HY.out, List.take_of_length_le (by rw [HN.out]; exact Nat.le_refl _)])
          have HRN : Hid (RowS wr B k (fun s => txt (upW ls (m + 1) 0 s))) := Lib.hid (by
            have h := HR2.out
            have e : strC k (fun s => txt (upW ls m k s)) = strC k (fun s => txt (upW ls (m + 1) 0 s)) := by
              unfold strC
              congr 1
              refine List.map_congr_left (fun s hs => ?_)
              have h2 := upW_next ls m s (by rw [HN.out]; exact List.mem_range.1 hs)
              rw [HN.out] at h2
              show Value.string (txt (upW ls m k s)) = Value.string (txt (upW ls (m + 1) 0 s))
              rw [h2]
            unfold RowS at h ⊢
            rw [← e]
            exact h)
          go_wp2
          go_roundw
          case rel => exact ⟨m + 1, y, by omega, by omega, by go_num, rfl, HNX.out, HRN.out, HB2.out⟩
          case measure => simp [intOf]; omega
    · obtain rfl : m = 16 := by omega
      have q1 : decide (((16 : Nat) : Int) ≤ 15) = false := by decide
      have HF : Hid (RowS wr B n (fun s => txt (wordB ls s))) := Lib.hid (by
        have h := HR.out
        simp only [upW_end] at h
        exact h)
      have hBw : w.heap.size ≤ B := by have := HBB.out; omega
      clear hx
      go_wp2
      go_ret
      exact ⟨B, rfl, HF.out, hBw, HB.out⟩
end Go.Proofs.YtmpokiflhijnoaaGreatDoor.Rf

/-
  The reference of layer 3: the symbol whose word a text begins with; layer 7: the next symbol.
-/
namespace Go.Proofs.YtmpokiflhijnoaaGreatDoor.Rf
open Go.RowKit Go.Shelf Go.Proofs.YtmpokiflhijnoaaGreatDoor.Mg Go.Proofs.YtmpokiflhijnoaaGreatDoor.Bw Go.Proofs.YtmpokiflhijnoaaGreatDoor.Bk Go.Proofs.YtmpokiflhijnoaaGreatDoor.Cn Go.Proofs.YtmpokiflhijnoaaGreatDoor.Zp
set_option linter.unusedVariables false
set_option linter.unusedSimpArgs false

theorem txt_extract (bs : List Bool) (k : Nat) (h : k ≤ bs.length) : (txt bs).extract 0 k = txt (bs.take k) := by
  apply ByteArray.ext
  apply Array.ext'
  unfold txt
  rw [ByteArray.data_extract, Array.toList_extract, strOfNums_data, strOfNums_data, List.map_take, List.map_take]
  simp
theorem str_list (b : ByteArray) : b.toList = b.data.toList := Lib.toList_data b
theorem str_ne {a b : ByteArray} (h : a ≠ b) : (a.toList == b.toList) = false := beq_eq_false_iff_ne.2 (fun e => h (ByteArray.ext (Array.ext' (by rw [str_list, str_list] at e; exact e))))
theorem str_eq {a b : ByteArray} (h : a = b) : (a.toList == b.toList) = true := by rw [h]; exact beq_self_eq_true _
theorem str_some {b : ByteArray} (h : 0 < b.size) : b.toList.isEmpty = false := by
  rw [str_list, List.isEmpty_eq_false_iff]
  intro e
  have h1 : b.data.toList.length = 0 := by rw [e]; rfl
  have h2 : b.size = b.data.toList.length := rfl
  omega
/-- The symbol s is the first one whose word begins the bits bs. -/
def First (ls : List Int) (bs : List Bool) (s : Nat) : Prop := s < ls.length ∧ 0 < ls.getD s 0 ∧ wordB ls s <+: bs ∧ ∀ t, t < s → wordB ls t = [] ∨ ¬ wordB ls t <+: bs

set_option maxHeartbeats 2000000 in
set_option maxRecDepth 100000 in
theorem find_calls (B n : Nat) (ls : List Int) (bs : List Bool) (s : Nat) (w : World) (hB : RowS w B n (fun t => txt (wordB ls t))) (hn : ls.length = n) (hl : n ≤ 288) (hb : bs.length ≤ 1000) (hF : First ls bs s) (hne : wordB ls s ≠ []) :
    Calls Tryz.prog 80 #[.slice (some ⟨B, 0, none⟩) n n, .string (txt bs)] w fun e w' => e = .returned (.int .i64 s) ∧ w' = w := by
  obtain ⟨h1, h2, h3, h4⟩ := hF
  have HR := Lib.hid hB
  have H3 := Lib.hid h3
  have H4 := Lib.hid h4
  have HNE := Lib.hid hne
  have hsn : s < n := by omega
  have hbl := txt_size bs
  obtain ⟨T, hT⟩ : ∃ T, txt bs = T := ⟨_, rfl⟩
  have HT := Lib.hid hT
  have HEX := Lib.hid (fun k h => txt_extract bs k h)
  rw [hT] at hbl HEX ⊢
  clear hB h2 h3 h4 hne hn h1 hT
  go_enter Tryz.func80, Tryz.ntmps80
  go_wp2
  go_loop [5, 6] (fun vm vi => ∃ (k : Nat) (m : Bool), k ≤ s ∧ vi = .int .i64 k ∧ vm = .bool m) (fun _ vi => s + 1 - (intOf vi).toNat)
  case atStart => exact ⟨0, false, Nat.zero_le _, rfl, rfl⟩
  case round =>
    obtain ⟨k, m, hk, rfl, rfl⟩ := hrel
    have q1 : decide ((k : Int) < (n : Int)) = true := decide_eq_true (by omega)
    have q1' : decide (k < n) = true := decide_eq_true (by omega)
    obtain ⟨hc, _⟩ := HR.out.cell k (by omega)
    have i0 : (0 : Int) ≤ (k : Int) := by omega
    have i1 : (k : Int) < (n : Int) := by omega
    have hws := txt_size (wordB ls k)
    have hwl := wordB_le ls k
    obtain ⟨wk, hwk⟩ : ∃ wk, wordB ls k = wk := ⟨_, rfl⟩
    have HWK := Lib.hid hwk
    rw [hwk] at hc hws hwl
    clear hwk
    by_cases hw0 : wk = []
    · subst hw0
      have hks : k < s := by
        rcases Nat.lt_or_ge k s with h | h
        · exact h
        · obtain rfl : k = s := by omega
          exact absurd HWK.out HNE.out
      rw [txt_nil] at hc
      clear hws
      go_wp2
      go_round
      case rel => exact ⟨k + 1, m, by omega, by go_num, rfl⟩
      case measure => simp [intOf]; omega
    · have hp : 0 < wk.length := List.length_pos_iff.2 hw0
      obtain ⟨W, hW⟩ : ∃ W, txt wk = W := ⟨_, rfl⟩
      have HW := Lib.hid hW
      rw [hW] at hc hws
      have hq := str_some (b := W) (by omega)
      have hws2 : (W.size : Int) = (wk.length : Int) := by omega
      have hbl2 : (T.size : Int) = (bs.length : Int) := by omega
      clear hW
      by_cases hle : wk.length ≤ bs.length
      · have q2 : decide ((W.size : Int) ≤ (T.size : Int)) = true := decide_eq_true (by omega)
        have q2' : decide (W.size ≤ T.size) = true := decide_eq_true (by omega)
        have q3 : decide ((T.size : Int) < (W.size : Int)) = false := decide_eq_false (by omega)
        have q3' : decide (T.size < W.size) = false := decide_eq_false (by omega)
        have hx := HEX.out wk.length hle
        have z0 : (0 : Int) ≤ (wk.length : Int) := by omega
        have z1 : (wk.length : Int) ≤ (bs.length : Int) := by omega
        have z2 : decide ((wk.length : Int) ≤ (bs.length : Int)) = true := decide_eq_true z1
        have z3 : decide (wk.length ≤ bs.length) = true := decide_eq_true hle
        have z4 : decide ((bs.length : Int) < (wk.length : Int)) = false := decide_eq_false (by omega)
        have z5 : decide (bs.length < wk.length) = false := decide_eq_false (by omega)
        obtain ⟨X, hX⟩ : ∃ X, T.extract 0 wk.length = X := ⟨_, rfl⟩
        rw [hX] at hx
        rcases Nat.lt_or_ge k s with hks | hks
        · have hne2 := str_ne (a := X) (b := W) (fun e => by
            have h1 : txt (bs.take wk.length) = txt wk := by rw [← hx, e, HW.out]
            have h2 := txt_inj h1
            rcases H4.out k hks with h3 | h3
            · rw [HWK.out] at h3; exact hw0 h3
            · rw [HWK.out] at h3
              exact h3 (by rw [← h2]; exact List.take_prefix _ _))
          clear hx hws2 hbl2
          go_wp2
          go_round
          case rel => exact ⟨k + 1, m, by omega, by go_num, rfl⟩
          case measure => simp [intOf]; omega
        · obtain rfl : k = s := by omega
          have heq := str_eq (a := X) (b := W) (by
            rw [hx, ← HW.out]
            congr 1
            have h3 := H3.out
            rw [HWK.out] at h3
            exact (List.prefix_iff_eq_take.1 h3).symm)
          clear hx hws2 hbl2
          go_wp2
          go_ret
          exact ⟨rfl, rfl⟩
      · have hks : k < s := by
          rcases Nat.lt_or_ge k s with h | h
          · exact h
          · obtain rfl : k = s := by omega
            exfalso
            have h3 := H3.out
            rw [HWK.out] at h3
            exact hle h3.length_le
        have z2 : decide ((wk.length : Int) ≤ (bs.length : Int)) = false := decide_eq_false (by omega)
        have z3 : decide (wk.length ≤ bs.length) = false := decide_eq_false hle
        have z4 : decide ((bs.length : Int) < (wk.length : Int)) = true := decide_eq_true (by omega)
        have z5 : decide (bs.length < wk.length) = true := decide_eq_true (by omega)
        have z0 : (0 : Int) ≤ (bs.length : Int) := by omega
        have z1 : (bs.length : Int) ≤ (wk.length : Int) := by omega
        obtain ⟨X, hX⟩ : ∃ X, W.extract 0 bs.length = X := ⟨_, rfl⟩
        clear hws2 hbl2
        cases hm2 : (X.toList == T.toList) with
        | true =>
          go_wp2
          go_round
          case rel => exact ⟨k + 1, true, by omega, by go_num, rfl⟩
          case measure => simp [intOf]; omega
        | false =>
          go_wp2
          go_round
          case rel => exact ⟨k + 1, m, by omega, by go_num, rfl⟩
          case measure => simp [intOf]; omega

theorem word_ne {ls : List Int} {s : Nat} (hin : ∀ x ∈ ls, 0 ≤ x ∧ x ≤ 15) (hp : 0 < ls.getD s 0) : wordB ls s ≠ [] := fun e => by
  have h := wordB_len ls s hin
  have h2 : (wordB ls s).length = 0 := by rw [e]; rfl
  omega
theorem first_of {ls : List Int} {s : Nat} {rest : List Bool} (hs : s < ls.length) (hin : ∀ x ∈ ls, 0 ≤ x ∧ x ≤ 15) (htot : tot 15 ls ≤ 2 ^ 15) (hp : 0 < ls.getD s 0) : First ls ((wordB ls s ++ rest).take 15) s := by
  have hl := wordB_le ls s
  refine ⟨hs, hp, ?_, fun t ht => ?_⟩
  · rw [List.take_append]
    rw [List.take_of_length_le hl]
    exact List.prefix_append _ _
  · by_cases hz : wordB ls t = []
    · exact .inl hz
    · refine .inr (fun hpre => ?_)
      have hpt : 0 < ls.getD t 0 := by
        rcases Int.lt_or_le 0 (ls.getD t 0) with h | h
        · exact h
        · exfalso
          have h2 := wordB_len ls t hin
          have h3 : 0 < (wordB ls t).length := List.length_pos_iff.2 hz
          omega
      have h1 : wordB ls t <+: wordB ls s ++ rest := hpre.trans (List.take_prefix _ _)
      have htl : t < ls.length := by omega
      rcases Nat.le_total (wordB ls t).length (wordB ls s).length with h2 | h2
      · have := word_prefix ls t s htl hs hin htot hpt hp rest h1 h2
        omega
      · have h3 : wordB ls s <+: wordB ls t := List.prefix_of_prefix_length_le (List.prefix_append _ rest) h1 h2
        have := word_prefix ls s t hs htl hin htot hp hpt [] (by rw [List.append_nil]; exact h3) h2
        omega

set_option maxHeartbeats 2000000 in
set_option maxRecDepth 100000 in
/-- The next symbol, where it is told. -/
theorem next_calls (A : Option Addr) (c B n : Nat) (ls : List Int) (bs rest : List Bool) (at' s : Nat) (w : World) (hA : BitsAt w A bs) (hB : RowS w B n (fun t => txt (wordB ls t))) (hn : ls.length = n) (hl : n ≤ 288) (hb : bs.length ≤ 1000000000) (ha : at' ≤ 1000000000)
    (hin : ∀ x ∈ ls, 0 ≤ x ∧ x ≤ 15) (htot : tot 15 ls ≤ 2 ^ 15) (hs : s < n) (hp : 0 < ls.getD s 0) (hd : bs.drop at' = wordB ls s ++ rest) :
    Calls Tryz.prog 47 #[.slice A bs.length c, .int .i64 at', .slice (some ⟨B, 0, none⟩) n n] w fun e w' => e = .returned (.tuple #[.int .i64 s, .int .i64 ((at' + (wordB ls s).length : Nat) : Int), .int .i64 0]) ∧ Below w.heap.size w w' := by
  have HT := Lib.hid (text_calls A c bs at' 15 w hA (by omega) (by omega) (by omega))
  rw [hd] at HT
  have HF := Lib.hid (fun (W : World) (h : RowS W B n (fun t => txt (wordB ls t))) => find_calls B n ls _ s W h hn hl (by rw [List.length_take]; omega) (first_of (rest := rest) (by omega) hin htot hp) (word_ne hin hp))
  have HR := Lib.hid hB
  have hwl := wordB_le ls s
  have hws := txt_size (wordB ls s)
  obtain ⟨wl, hwl2⟩ : ∃ wl, (wordB ls s).length = wl := ⟨_, rfl⟩
  rw [hwl2] at hwl hws ⊢
  obtain ⟨L, hL⟩ : ∃ L, bs.length = L := ⟨_, rfl⟩
  rw [hL] at HT hb ⊢
  generalize txt ((wordB ls s ++ rest).take 15) = T at *
  have e1 : ((s : Int) == -2) = false := beq_eq_false_iff_ne.2 (by omega)
  have e2 : ((s : Int) == -1) = false := beq_eq_false_iff_ne.2 (by omega)
  clear hA hB hin htot hp hd hwl2 hL
  go_enter Tryz.func47, Tryz.ntmps47
  go_wp2_with fail
  refine HT.out.mono ?_
  rintro e w1 ⟨rfl, hb1⟩
  have HB1 := Lib.hid hb1
  have HR1 := Lib.hid (HR.out.below hb1)
  clear hb1
  go_wp2_with fail
  refine (HF.out w1 HR1.out).mono ?_
  rintro e w2 ⟨rfl, rfl⟩
  obtain ⟨hc, _⟩ := HR1.out.cell s hs
  have i0 : (0 : Int) ≤ (s : Int) := by omega
  have i1 : (s : Int) < (n : Int) := by omega
  go_wp2_with fail
  go_quiet (fail)
  generalize hW : World.drewN _ _ = w3
  have HB3 : Hid (Below w.heap.size w w3) := Lib.hid (by rw [← hW]; exact below_drewN HB1.out _)
  clear hW
  go_wp2
  go_ret3
  exact ⟨by simp, HB3.out⟩
end Go.Proofs.YtmpokiflhijnoaaGreatDoor.Rf

