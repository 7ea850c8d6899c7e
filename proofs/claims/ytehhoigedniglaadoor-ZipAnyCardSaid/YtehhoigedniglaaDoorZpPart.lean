/-
  Parts of a text, numbers in it, how it begins.
-/
import Derived.Test.YtehhoigedniglaaDoorZpGet
import Derived.Test.YtehhoigedniglaaDoorShelf
import Derived.Lib.Strings
namespace Go.Proofs.YtehhoigedniglaaDoor.Zp
open Go.RowKit Go.Shelf
set_option linter.unusedVariables false
set_option linter.unusedSimpArgs false

def partS (s : ByteArray) (k n : Nat) : ByteArray := s.extract (min k s.size) (min (min k s.size + n) s.size)
def partI (s : ByteArray) (k n : Int) : ByteArray := partS s k.toNat n.toNat
theorem partS_size (s : ByteArray) (k n : Nat) : (partS s k n).size ≤ s.size := by
  unfold partS
  rw [ByteArray.size_extract]
  omega
theorem partS_le (s : ByteArray) (k n : Nat) : (partS s k n).size ≤ n := by
  unfold partS
  rw [ByteArray.size_extract]
  omega

set_option maxHeartbeats 1000000 in
theorem part_calls (s : ByteArray) (k n : Nat) (w : World) (hs : s.size ≤ 140737488351232) (hk : k ≤ 1000000000000000) (hn : n ≤ 1000000000000000) :
    Calls Tryd.prog 51 #[.string s, .int .i64 k, .int .i64 n] w fun e w' => e = .returned (.string (partS s k n)) ∧ w = w' := by
  obtain ⟨m, hm⟩ : ∃ m, m = min k s.size := ⟨_, rfl⟩
  obtain ⟨m2, hm2⟩ : ∃ m2, m2 = min (m + n) s.size := ⟨_, rfl⟩
  have e1 : min (k : Int) (s.size : Int) = (m : Int) := by omega
  have e2 : min ((m : Int) + (n : Int)) (s.size : Int) = (m2 : Int) := by omega
  have HR : Hid (partS s k n = s.extract m m2) := Lib.hid (by unfold partS; rw [hm2, hm])
  have b1 : m ≤ s.size := by omega
  have b2 : m2 ≤ s.size := by omega
  have b3 : m ≤ m2 := by omega
  clear hm hm2
  go_enter Tryd.func51, Tryd.ntmps51
  go_wp2
  go_ret
  exact ⟨by rw [HR.out]; rfl, rfl⟩

def numS (s : ByteArray) (k n : Nat) : Nat := getS (partS s k n)
theorem number_calls (s : ByteArray) (k n : Nat) (w : World) (hs : s.size ≤ 140737488351232) (hk : k ≤ 1000000000000000) (hn : n ≤ 1000000000000000) :
    Calls Tryd.prog 49 #[.string s, .int .i64 k, .int .i64 n] w fun e w' => e = .returned (.int .u64 (numS s k n)) ∧ w = w' := by
  have HR := Lib.hid (show numS s k n = getS (partS s k n) from rfl)
  have hp := partS_size s k n
  have HP := Lib.hid (part_calls s k n w hs hk hn)
  go_enter Tryd.func49, Tryd.ntmps49
  go_wp2_with (first | (go_at_call 51; refine HP.out.mono ?_; rintro e w' ⟨rfl, rfl⟩) | (go_at_call 63; refine (get_calls _ _ (by omega)).mono ?_; rintro e w' ⟨rfl, rfl⟩))
  go_ret
  exact ⟨by rw [HR.out]; rfl, rfl⟩
theorem number_any (s : ByteArray) (k n : Int) (w : World) (hs : s.size ≤ 140737488351232) (hk0 : 0 ≤ k) (hk : k ≤ 1000000000000000) (hn0 : 0 ≤ n) (hn : n ≤ 1000000000000000) :
    Calls Tryd.prog 49 #[.string s, .int .i64 k, .int .i64 n] w fun e w' => e = .returned (.int .u64 (numS s k.toNat n.toNat)) ∧ w = w' := by
  obtain ⟨k, rfl⟩ := Int.eq_ofNat_of_zero_le hk0
  obtain ⟨n, rfl⟩ := Int.eq_ofNat_of_zero_le hn0
  exact number_calls s k n w hs (by omega) (by omega)
theorem part_any (s : ByteArray) (k n : Int) (w : World) (hs : s.size ≤ 140737488351232) (hk0 : 0 ≤ k) (hk : k ≤ 1000000000000000) (hn0 : 0 ≤ n) (hn : n ≤ 1000000000000000) :
    Calls Tryd.prog 51 #[.string s, .int .i64 k, .int .i64 n] w fun e w' => e = .returned (.string (partS s k.toNat n.toNat)) ∧ w = w' := by
  obtain ⟨k, rfl⟩ := Int.eq_ofNat_of_zero_le hk0
  obtain ⟨n, rfl⟩ := Int.eq_ofNat_of_zero_le hn0
  exact part_calls s k n w hs (by omega) (by omega)
theorem numS_lt (s : ByteArray) (k n : Nat) : numS s k n < 18446744073709551616 := getS_lt _
theorem numS_2 (s : ByteArray) (k : Nat) : numS s k 2 < 65536 := by
  unfold numS getS
  have h1 := partS_le s k 2
  rw [if_pos (by omega)]
  refine Nat.lt_of_lt_of_le (getB_lt _ (byL_lt _)) ?_
  rw [byL_len]
  exact Nat.pow_le_pow_right (show 256 > 0 by omega) h1
theorem numS_4 (s : ByteArray) (k : Nat) : numS s k 4 < 4294967296 := by
  unfold numS getS
  have h1 := partS_le s k 4
  rw [if_pos (by omega)]
  refine Nat.lt_of_lt_of_le (getB_lt _ (byL_lt _)) ?_
  rw [byL_len]
  exact Nat.pow_le_pow_right (show 256 > 0 by omega) h1

def sgnB (s sign : ByteArray) : Bool := Lib.hasPrefix s.data.toList (partS sign 0 s.size).data.toList
theorem signed_calls (s sign : ByteArray) (w : World) (hs : s.size ≤ 140737488351232) (hg : sign.size ≤ 100) :
    Calls Tryd.prog 50 #[.string s, .string sign] w fun e w' => e = .returned (.bool (sgnB s sign)) ∧ w = w' := by
  have HR := Lib.hid (show sgnB s sign = Lib.hasPrefix s.data.toList (partS sign 0 s.size).data.toList from rfl)
  have HP := Lib.hid (part_calls sign 0 s.size w (by omega) (by omega) (by omega))
  go_enter Tryd.func50, Tryd.ntmps50
  go_wp2_with (first | (go_at_call 51; refine HP.out.mono ?_; rintro e w' ⟨rfl, rfl⟩) | (go_at_call 44; refine (Tryd.strings_HasPrefix _ _ _).mono ?_; rintro e w' ⟨rfl, hw⟩; obtain rfl := hw))
  go_ret
  exact ⟨by rw [HR.out]; rfl, rfl⟩
end Go.Proofs.YtehhoigedniglaaDoor.Zp
