/-
  Numbers' bytes: the reference's Put, and the two Gets.
-/
import Derived.Test.YtehhoigedniglaaDoorZpPut
namespace Go.Proofs.YtehhoigedniglaaDoor.Zp
open Go.RowKit
set_option linter.unusedVariables false
set_option linter.unusedSimpArgs false

theorem putS_zero (n : Nat) : putS n 0 = ⟨#[]⟩ := rfl
theorem putB_succ : ∀ (k n : Nat), putB n (k + 1) = putB n k ++ [n / 256 ^ k % 256]
  | 0, n => by simp [putB]
  | k + 1, n => by
    rw [putB, putB_succ k (n / 256), putB, Nat.div_div_eq_div_mul, Nat.pow_succ, Nat.mul_comm 256, List.cons_append]
theorem putS_succ (n k : Nat) : putS n (k + 1) = putS n k ++ strOfNums [((n / 256 ^ k % 256 : Nat) : Int)] := by
  have : putL n (k + 1) = putL n k ++ [((n / 256 ^ k % 256 : Nat) : Int)] := by
    simp only [putL, putB_succ, List.map_append, List.map_cons, List.map_nil]
    rfl
  rw [putS, this, putS]
  apply ByteArray.ext
  rw [ByteArray.data_append]
  apply Array.ext'
  rw [Array.toList_append, strOfNums_data, strOfNums_data, strOfNums_data, List.map_append]

set_option maxRecDepth 100000 in
theorem conv_one (v : Int) (W : World) : (convert 45 9 (.slice (some ⟨W.heap.size, 0, none⟩) 1 1)).run Tryd.prog (W.alloc (.cells #[.int .u8 v] 5)) = .ok (.string (strOfNums [v])) (W.alloc (.cells #[.int .u8 v] 5)) := by
  have hcell : ∀ i, i < 1 → (W.alloc (.cells #[.int .u8 v] 5)).cell? ⟨W.heap.size, 0 + i, none⟩ = some (.int .u8 (([v] : List Int).getD i 0)) := fun i hi => by
    obtain rfl : i = 0 := by omega
    simp only [World.cell?]
    rw [World.alloc_heap_new]
    rfl
  exact run_convert_bytes_arg (P := Tryd.prog) (w := W.alloc (.cells #[.int .u8 v] 5)) 45 5 Tryd.underlying45 Tryd.underlying5 W.heap.size 0 1 1 [v] rfl hcell 9 Tryd.underlying9

set_option maxHeartbeats 1000000 in
set_option maxRecDepth 100000 in
theorem refput_calls (n N : Nat) (w : World) (hn : n < 18446744073709551616) (h1 : 1 ≤ N) (h8 : N ≤ 8) :
    Calls Tryd.prog 24 #[.int .u64 n, .int .i64 N] w fun e w' => e = .returned (.string (putS n N)) ∧ Below w.heap.size w w' := by
  have q2 : decide ((N : Int) ≤ 8) = true := decide_eq_true (by omega)
  have B0 := Lib.hid (Below.refl w.heap.size w)
  go_enter Tryd.func24, Tryd.ntmps24
  go_wp2
  go_loopw [0, 5, 6] (fun p s i wr => ∃ (k : Nat), k ≤ N ∧ i = .int .i64 k ∧ s = .string (putS n k) ∧ p = .int .u64 ((n / 256 ^ k : Nat) : Int) ∧ Below w.heap.size w wr) (fun _ _ i _ => N - (intOf i).toNat)
  case atStart => exact ⟨0, Nat.zero_le _, rfl, rfl, by simp, B0.out⟩
  case round =>
    obtain ⟨k, hk, rfl, rfl, rfl, hb⟩ := hrel
    have HB := Lib.hid hb
    clear hb
    by_cases hlt : k < N
    · obtain ⟨m, hm⟩ : ∃ m, m = n / 256 ^ k := ⟨_, rfl⟩
      have hm2 : m < 18446744073709551616 := by rw [hm]; exact Nat.lt_of_le_of_lt (Nat.div_le_self _ _) hn
      rw [← hm]
      have HM := Lib.hid hm
      clear hm
      have hc := conv_one ((m : Int) % 256) wr
      have s1 := putS_size n k
      have s2 : (strOfNums [(m : Int) % 256]).size = 1 := by rw [strOfNums_size]; rfl
      have HS := Lib.hid (putS_succ n k)
      go_wp2
      go_roundw
      case rel => exact ⟨k + 1, by omega, by go_num, by rw [HS.out, ← HM.out]; rfl, by rw [Nat.pow_succ, ← Nat.div_div_eq_div_mul, ← HM.out]; rfl, HB.out.alloc HB.out.size _⟩
      case measure => simp [intOf]; omega
    · have hkN : k = N := by omega
      subst hkN
      go_wp2
      go_ret
      exact ⟨rfl, HB.out⟩
end Go.Proofs.YtehhoigedniglaaDoor.Zp
