/-
  The reference of layer 1: bits of a text, numbers of bits.
-/
import Derived.Test.YtmpokiflhijnoaaDoorBwAdd
import Derived.Test.YtmpokiflhijnoaaDoorCnPrefix
import Derived.Test.YtmpokiflhijnoaaDoorZpPut
import Derived.Test.YtmpokiflhijnoaaDoorBkDynP
namespace Go.Proofs.YtmpokiflhijnoaaDoor.Rf
open Go.RowKit Go.Shelf Go.Proofs.YtmpokiflhijnoaaDoor.Mg Go.Proofs.YtmpokiflhijnoaaDoor.Bw Go.Proofs.YtmpokiflhijnoaaDoor.Bk Go.Proofs.YtmpokiflhijnoaaDoor.Cn
set_option linter.unusedVariables false
set_option linter.unusedSimpArgs false

def bitI (b : Bool) : Int := if b then 1 else 0
def bitsI (bs : List Bool) : List Int := bs.map bitI
theorem bitsI_len (bs : List Bool) : (bitsI bs).length = bs.length := by simp [bitsI]
theorem bitsI_get (bs : List Bool) (i : Nat) (h : i < bs.length) : (bitsI bs)[i]'(by rw [bitsI_len]; exact h) = bitI bs[i] := by simp [bitsI]
theorem bitI_range (b : Bool) : 0 ≤ bitI b ∧ bitI b ≤ 1 := by cases b <;> decide
theorem strN_get (s : ByteArray) (i : Nat) (h : i < s.size) : (strN s)[i]'(by rw [strN_len]; exact h) = s[i].toNat := by
  unfold strN
  rw [List.getElem_map]
  rfl
def strBk (s : ByteArray) (i : Nat) : List Bool := ((strN s).take i).flatMap (bitsN 8)
theorem strBk_succ (s : ByteArray) (i : Nat) (h : i < s.size) : strBk s (i + 1) = strBk s i ++ bitsN 8 s[i].toNat := by
  unfold strBk
  rw [List.take_succ_eq_append_getElem (by rw [strN_len]; exact h), List.flatMap_append, strN_get s i h]
  simp
theorem flat8_len : ∀ l : List Nat, (l.flatMap (bitsN 8)).length = 8 * l.length
  | [] => rfl
  | x :: l => by rw [List.flatMap_cons, List.length_append, bitsN_len, flat8_len l, List.length_cons]; omega
theorem strBk_len (s : ByteArray) (i : Nat) (h : i ≤ s.size) : (strBk s i).length = 8 * i := by
  unfold strBk
  rw [flat8_len, List.length_take, strN_len]
  omega
theorem strB_len (s : ByteArray) : (strB s).length = 8 * s.size := by
  unfold strB
  rw [flat8_len, strN_len]
theorem bitsN_succ (k v : Nat) : bitsN (k + 1) v = bitsN k v ++ [v.testBit k] := by
  unfold bitsN
  rw [List.range_succ, List.map_append]
  rfl
theorem bit_of (v k : Nat) : (((v / 2 ^ k : Nat) : Int) % 2) = bitI (v.testBit k) := by
  rw [Nat.testBit_eq_decide_div_mod_eq]
  unfold bitI
  have : (v / 2 ^ k) % 2 < 2 := Nat.mod_lt _ (by omega)
  split
  · rename_i h
    simp at h
    omega
  · rename_i h
    simp at h
    omega

set_option maxHeartbeats 2000000 in
set_option maxRecDepth 100000 in
theorem bits_calls (s : ByteArray) (w : World) (hs : s.size ≤ 100000000) :
    Calls Tryd.prog 50 #[.string s] w fun e w' => (∃ v, e = .returned v ∧ w'.ownsRow w.heap.size 3 1 v (8 * s.size) (intsV (bitsI (strB s)))) ∧ Below w.heap.size w w' := by
  have hii : Tryd.prog.info? 3 = some ti := by kernel_rfl
  have hiz0 : ti.zero = some (.int .i64 0) := by kernel_rfl
  have hiz1 : ti.size = 1 := by kernel_rfl
  have hiz2 : ti.bytes = 8 := by kernel_rfl
  have N0 := Lib.hid (World.ownsRow_nil w w.heap.size 3 1)
  have B0 := Lib.hid (Below.refl w.heap.size w)
  go_enter Tryd.func50, Tryd.ntmps50
  go_wp2
  go_loopw [3, 4] (fun va vi wr => ∃ i : Nat, i ≤ s.size ∧ vi = .int .i64 i ∧ wr.ownsRow w.heap.size 3 1 va (8 * i) (intsV (bitsI (strBk s i))) ∧ Below w.heap.size w wr) (fun _ vi _ => s.size - (intOf vi).toNat)
  case atStart => exact ⟨0, Nat.zero_le _, rfl, N0.out, B0.out⟩
  case round =>
    obtain ⟨i, hi, rfl, hown, hbl⟩ := hrel
    have HO := Lib.hid hown
    have HB := Lib.hid hbl
    clear hown hbl
    by_cases hlt : i < s.size
    · have q1 : decide ((i : Int) < (s.size : Int)) = true := decide_eq_true (by omega)
      have q1' : decide (i < s.size) = true := decide_eq_true hlt
      have HS := Lib.hid (strBk_succ s i hlt)
      have hx := s[i].toNat_lt
      obtain ⟨x, hx2⟩ : ∃ x, s[i].toNat = x := ⟨_, rfl⟩
      have HX := Lib.hid hx2
      rw [hx2] at HS hx
      go_upto_region 6 with fail
      clear hx2
      have HO6 : Hid (wr.ownsRow w.heap.size 3 1 u3 (8 * i + 0) (intsV (bitsI (strBk s i ++ bitsN 0 x)))) := Lib.hid (by rw [bitsN_zero, List.append_nil]; exact HO.out)
      go_wp2_with fail
      go_loopw [3, 5, 6] (fun va vv vk wx => ∃ k : Nat, k ≤ 8 ∧ vk = .int .i64 k ∧ vv = .int .i64 ((x / 2 ^ k : Nat) : Int) ∧ wx.ownsRow w.heap.size 3 1 va (8 * i + k) (intsV (bitsI (strBk s i ++ bitsN k x))) ∧ Below w.heap.size w wx) (fun _ _ vk _ => 8 - (intOf vk).toNat)
      case atStart => exact ⟨0, Nat.zero_le _, rfl, by simp, HO6.out, HB.out⟩
      case round =>
        obtain ⟨k, hk, rfl, rfl, hown, hbl⟩ := hrel
        have HO2 := Lib.hid hown
        have HB2 := Lib.hid hbl
        clear hown hbl
        by_cases hlk : k < 8
        · have p1 : decide ((k : Int) < 8) = true := decide_eq_true (by omega)
          have hbit := bit_of x k
          have hrg := bitI_range (x.testBit k)
          have hle : x / 2 ^ k ≤ x := Nat.div_le_self _ _
          have hdd : x / 2 ^ k / 2 = x / 2 ^ (k + 1) := by rw [Nat.div_div_eq_div_mul, Nat.pow_succ]
          have HDD := Lib.hid hdd
          obtain ⟨y, hy⟩ : ∃ y, x / 2 ^ k = y := ⟨_, rfl⟩
          rw [hy] at hbit hle HDD ⊢
          obtain ⟨z, hz⟩ : ∃ z, bitI (x.testBit k) = z := ⟨_, rfl⟩
          rw [hz] at hbit hrg
          have HN : Hid (intsV (bitsI (strBk s i ++ bitsN (k + 1) x)) = intsV (bitsI (strBk s i ++ bitsN k x)) ++ [.int .i64 z]) := Lib.hid (by
            rw [bitsN_succ, ← List.append_assoc]
            unfold bitsI
            rw [List.map_append, List.map_cons, List.map_nil, hz]
            exact intsV_snoc _ _)
          have htm : Int.tmod (y : Int) 2 = z := by rw [Int.tmod_eq_emod_of_nonneg (by omega)]; exact hbit
          have htd : Int.tdiv (y : Int) 2 = ((y / 2 : Nat) : Int) := by rw [Int.tdiv_eq_ediv_of_nonneg (by omega)]; rfl
          clear hdd hy hz
          go_wp2_with (at_builtin; refine wpList_append_at _ rfl _ _ 22 rfl w.heap.size 3 ti (.int .i64 0) 1 8 Tryd.underlying22 hii hiz0 hiz1 hiz2 rfl (by decide) _ _ _ rfl (HO2.out.alloc _) ⟨wr.heap.size, 0, none⟩ 1 1 [.int .i64 z] rfl rfl ?c1 ?c2 ?c3 ?c4 ?c5 ?_)
          case c1 => exact new_cells wr [.int .i64 z] _
          case c2 => simp [Value.oneCell']
          case c3 => unfold maxLen; omega
          case c4 => omega
          case c5 => have := HB2.out.size; simp; omega
          intro v3 w3 hown1 hg1 hfr
          have hbl : Below w.heap.size w w3 := (HB2.out.alloc HB2.out.size _).grown hg1 (by have := HB2.out.size; simp; omega) (fun r e => (HO2.out.lt r e).1)
          rw [← HN.out] at hown1
          obtain ⟨gv, cv, rfl, _, _⟩ := hown1.form (by omega)
          have HO7 := Lib.hid hown1
          have HB7 := Lib.hid hbl
          clear hown1 hg1 hbl hfr
          go_wp2
          go_roundw
          case rel => exact ⟨k + 1, by omega, by go_num, by rw [← HDD.out]; rfl, HO7.out, HB7.out⟩
          case measure => simp [intOf]; omega
        · obtain rfl : k = 8 := by omega
          have p1 : decide (((8 : Nat) : Int) < 8) = false := by decide
          have HO7 : Hid (wr.ownsRow w.heap.size 3 1 u3 (8 * (i + 1)) (intsV (bitsI (strBk s (i + 1))))) := Lib.hid (by
            rw [HS.out, show 8 * (i + 1) = 8 * i + 8 by omega]
            exact HO2.out)
          go_wp2
          go_roundw
          case rel => exact ⟨i + 1, by omega, by go_num, HO7.out, HB2.out⟩
          case measure => simp [intOf]; omega
    · obtain rfl : i = s.size := by omega
      have q1 : decide ((s.size : Int) < (s.size : Int)) = false := decide_eq_false (by omega)
      have HF : Hid (wr.ownsRow w.heap.size 3 1 u3 (8 * s.size) (intsV (bitsI (strB s)))) := Lib.hid (by
        have e : strBk s s.size = strB s := by
          unfold strBk strB
          rw [List.take_of_length_le (by rw [strN_len]; exact Nat.le_refl _)]
        rw [← e]
        exact HO.out)
      go_wp2
      go_ret
      exact ⟨⟨_, rfl, HF.out⟩, HB.out⟩

/-- The number of bits, the lowest first. -/
def numB : List Bool → Nat
  | [] => 0
  | b :: bs => 2 * numB bs + (if b then 1 else 0)
theorem numB_lt : ∀ bs : List Bool, numB bs < 2 ^ bs.length
  | [] => by decide
  | b :: bs => by
    have := numB_lt bs
    rw [numB, List.length_cons, Nat.pow_succ]
    split <;> omega
theorem numB_bits : ∀ (n v : Nat), numB (bitsN n v) = v % 2 ^ n
  | 0, v => by rw [bitsN_zero, Nat.pow_zero, Nat.mod_one]; rfl
  | n + 1, v => by
    have e : bitsN (n + 1) v = decide (v % 2 = 1) :: bitsN n (v / 2) := by
      have := bitsN_cons n (v / 2) (v % 2) (Nat.mod_lt _ (by omega))
      rw [← this]
      congr 1
      omega
    rw [e, numB, numB_bits n (v / 2), Nat.pow_succ]
    have h1 : v % (2 ^ n * 2) = v % 2 + 2 * (v / 2 % 2 ^ n) := by
      rw [Nat.mul_comm, Nat.mod_mul]
    rw [h1]
    have h2 : v % 2 < 2 := Nat.mod_lt _ (by omega)
    split
    · rename_i h; simp at h; omega
    · rename_i h; simp at h; omega
theorem numB_drop (bs : List Bool) (i : Nat) (h : i < bs.length) : numB (bs.drop i) = 2 * numB (bs.drop (i + 1)) + (if bs[i] then 1 else 0) := by
  rw [List.drop_eq_getElem_cons h, numB]

/-- A row of bits that is read. -/
def BitsAt (w : World) (A : Option Addr) (bs : List Bool) : Prop := Reads w A (bitsI bs)
theorem BitsAt.below {w w' : World} {A : Option Addr} {bs : List Bool} (h : BitsAt w A bs) (hb : Below w.heap.size w w') : BitsAt w' A bs := Reads.below h hb

set_option maxHeartbeats 1000000 in
set_option maxRecDepth 100000 in
theorem number_calls (A : Option Addr) (c : Nat) (bs : List Bool) (w : World) (hA : BitsAt w A bs) (hl : bs.length ≤ 60) :
    Calls Tryd.prog 91 #[.slice A bs.length c] w fun e w' => e = .returned (.int .u64 (numB bs : Nat)) ∧ w' = w := by
  have HA := Lib.hid hA
  obtain ⟨n, hn⟩ : ∃ n, bs.length = n := ⟨_, rfl⟩
  have HN := Lib.hid hn
  rw [hn] at hl ⊢
  have HE : Hid (numB (bs.drop n) = 0) := Lib.hid (by rw [List.drop_of_length_le (by omega)]; rfl)
  clear hA hn
  go_enter Tryd.func91, Tryd.ntmps91
  go_wp2
  go_loop [3, 4] (fun vn vi => ∃ k : Nat, k ≤ n ∧ vi = .int .i64 ((k : Int) - 1) ∧ vn = .int .u64 (numB (bs.drop k) : Nat)) (fun _ vi => (intOf vi + 1).toNat)
  case atStart => exact ⟨n, Nat.le_refl _, by go_num, by rw [HE.out]; rfl⟩
  case round =>
    obtain ⟨k, hk, rfl, rfl⟩ := hrel
    rcases Nat.eq_zero_or_pos k with rfl | hp
    · go_wp2
      go_ret
      exact ⟨rfl, rfl⟩
    · obtain ⟨j, rfl⟩ : ∃ j, k = j + 1 := ⟨k - 1, by omega⟩
      have j1 : j < bs.length := by rw [HN.out]; omega
      have HD := Lib.hid (numB_drop bs j j1)
      have hlt := numB_lt (bs.drop (j + 1))
      have hpw : 2 ^ (bs.drop (j + 1)).length ≤ 2 ^ 60 := Nat.pow_le_pow_right (by omega) (by rw [List.length_drop]; have := HN.out; omega)
      have h60 : (2 : Nat) ^ 60 = 1152921504606846976 := by decide
      have hm : numB (bs.drop (j + 1)) < 1152921504606846976 := by omega
      obtain ⟨g, o, rfl, hcell⟩ := HA.out j (by rw [bitsI_len]; exact j1)
      rw [bitsI_get bs j j1] at hcell
      obtain ⟨b, hb⟩ : ∃ b, bs[j] = b := ⟨_, rfl⟩
      rw [hb] at hcell HD
      generalize numB (bs.drop (j + 1)) = m at *
      have ej : ((j + 1 : Nat) : Int) - 1 = (j : Int) := by omega
      rw [ej]
      have q3 : decide ((0 : Int) ≤ (j : Int)) = true := decide_eq_true (by omega)
      have i1 : (j : Int) < (n : Int) := by omega
      clear ej hb hlt hpw
      cases b with
      | false =>
        have e : bitI false = 0 := rfl
        rw [e] at hcell
        go_wp2
        go_round
        case rel => exact ⟨j, by omega, by go_num, by rw [HD.out]; simp⟩
        case measure => simp [intOf]
      | true =>
        have e : bitI true = 1 := rfl
        rw [e] at hcell
        go_wp2
        go_round
        case rel => exact ⟨j, by omega, by go_num, by rw [HD.out]; simp⟩
        case measure => simp [intOf]
end Go.Proofs.YtmpokiflhijnoaaDoor.Rf
