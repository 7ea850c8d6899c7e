/-
  The reference's Get (ZpGet's first half, for seats without bits.Get).
-/
import Derived.Test.YtmpokiflhijnoaaDoorRfDists
namespace Go.Proofs.YtmpokiflhijnoaaDoor.Zp
open Go.RowKit
set_option linter.unusedVariables false
set_option linter.unusedSimpArgs false

/-- A text's bytes as numbers; the number of a short text. -/
def byL (s : ByteArray) : List Nat := s.data.toList.map UInt8.toNat
def getS (s : ByteArray) : Nat := if s.size ≤ 8 then getB (byL s) else 0
theorem byL_len (s : ByteArray) : (byL s).length = s.size := by rw [byL, List.length_map]; rfl
theorem byL_lt (s : ByteArray) : ∀ b ∈ byL s, b < 256 := by
  intro b hb
  obtain ⟨c, _, rfl⟩ := List.mem_map.1 hb
  exact c.toNat_lt
theorem byL_drop (s : ByteArray) (k : Nat) (h : k < s.size) : getB ((byL s).drop k) = s[k].toNat + 256 * getB ((byL s).drop (k + 1)) := by
  have hl : k < (byL s).length := by rw [byL_len]; exact h
  rw [List.drop_eq_getElem_cons hl, getB]
  congr 1
  simp [byL, ByteArray.getElem_eq_getElem_data]
theorem byL_drop_lt (s : ByteArray) (k : Nat) (h : s.size ≤ k + 7) : getB ((byL s).drop k) < 72057594037927936 := by
  have h1 := getB_lt ((byL s).drop k) (fun b hb => byL_lt s b (List.mem_of_mem_drop hb))
  refine Nat.lt_of_lt_of_le h1 ?_
  rw [List.length_drop, byL_len]
  exact Nat.pow_le_pow_right (by omega) (show s.size - k ≤ 7 by omega)
theorem byL_end (s : ByteArray) (k : Nat) (h : s.size ≤ k) : getB ((byL s).drop k) = 0 := by
  rw [List.drop_of_length_le (by rw [byL_len]; exact h)]
  rfl
theorem getS_lt (s : ByteArray) : getS s < 18446744073709551616 := by
  unfold getS
  split
  · refine Nat.lt_of_lt_of_le (getB_lt _ (byL_lt s)) ?_
    rw [byL_len]
    exact Nat.pow_le_pow_right (show 256 > 0 by omega) (show s.size ≤ 8 by assumption)
  · omega

theorem nat_or_add (m i b : Nat) (hb : b < 2 ^ i) : m * 2 ^ i ||| b = m * 2 ^ i + b := by
  rw [← Nat.shiftLeft_eq, Nat.shiftLeft_add_eq_or_of_lt hb]
set_option maxRecDepth 100000 in
theorem or_u64 (n b : Nat) (hn : n < 72057594037927936) (hb : b < 2 ^ 8) : Go.bits .or .u64 ((n : Int) * 256) (b : Int) = ((b + 256 * n : Nat) : Int) := by
  have e : Go.bits .or .u64 ((n : Int) * 256) (b : Int) = IntKind.u64.wrap ((BitVec.ofInt 64 ((n : Int) * 256) ||| BitVec.ofInt 64 (b : Int)).toNat : Int) := rfl
  have e1 : BitVec.ofInt 64 ((n : Int) * 256) = BitVec.ofNat 64 (n * 256) := by
    rw [← BitVec.ofInt_natCast, Int.natCast_mul]
    rfl
  rw [e, e1, BitVec.ofInt_natCast, BitVec.toNat_or, BitVec.toNat_ofNat, BitVec.toNat_ofNat, Nat.mod_eq_of_lt (by omega), Nat.mod_eq_of_lt (by omega)]
  have e2 := nat_or_add n 8 b hb
  rw [show n * 256 = n * 2 ^ 8 from rfl, e2, IntKind.wrap_u64]
  omega

set_option maxHeartbeats 1000000 in
set_option maxRecDepth 100000 in
theorem refget_calls (s : ByteArray) (w : World) (hs : s.size ≤ 140737488351232) :
    Calls Tryd.prog 72 #[.string s] w fun e w' => e = .returned (.int .u64 (getS s)) ∧ w = w' := by
  by_cases h8 : s.size ≤ 8
  · have q2 : decide ((s.size : Int) ≤ 8) = true := decide_eq_true (by omega)
    have HG : Hid (getS s = getB ((byL s).drop 0)) := Lib.hid (by unfold getS; rw [if_pos h8]; rfl)
    go_enter Tryd.func72, Tryd.ntmps72
    go_wp2
    go_loop [3, 4] (fun p i => ∃ k : Nat, k ≤ s.size ∧ i = .int .i64 k ∧ p = .int .u64 (getB ((byL s).drop k))) (fun _ i => (intOf i).toNat)
    case atStart => exact ⟨s.size, by omega, rfl, by rw [byL_end s _ (by omega)]; rfl⟩
    case round =>
      obtain ⟨k, hk, rfl, rfl⟩ := hrel
      rcases Nat.eq_zero_or_pos k with rfl | hp
      · go_wp2
        go_ret
        exact ⟨by rw [HG.out]; rfl, rfl⟩
      · obtain ⟨j, rfl⟩ : ∃ j, k = j + 1 := ⟨k - 1, by omega⟩
        have HD := Lib.hid (byL_drop s j (by omega))
        have hb := byL_drop_lt s (j + 1) (by omega)
        have hc := s[j].toNat_lt
        generalize getB ((byL s).drop (j + 1)) = n at *
        have q3 : decide ((0 : Int) < ((j + 1 : Nat) : Int)) = true := decide_eq_true (by omega)
        go_wp2
        go_round
        case rel => exact ⟨j, by omega, by go_num, by rw [HD.out]; go_num⟩
        case measure => simp [intOf]
  · have q2 : decide ((s.size : Int) ≤ 8) = false := decide_eq_false (by omega)
    have q3 : decide ((0 : Int) < (s.size : Int)) = true := decide_eq_true (by omega)
    have HG : Hid (getS s = 0) := Lib.hid (by unfold getS; rw [if_neg h8])
    go_enter Tryd.func72, Tryd.ntmps72
    go_wp2
    go_loop [3, 4] (fun p i => i = .int .i64 s.size ∧ p = .int .u64 0) (fun _ i => (intOf i).toNat)
    case atStart => exact ⟨rfl, rfl⟩
    case round =>
      obtain ⟨rfl, rfl⟩ := hrel
      go_wp2
      go_ret
      exact ⟨by rw [HG.out]; rfl, rfl⟩

end Go.Proofs.YtmpokiflhijnoaaDoor.Zp
