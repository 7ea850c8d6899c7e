/-
  canon: slack, turned.
-/
import Derived.Test.YtnoplhjbachjiaaMgCanon
namespace Go.Proofs.Ytnoplhjbachjiaa.Mg
open Go.ChangeShapes Go.WideShapes Go.ChangeAt Go.RowKit Go.Shelf Go.Proofs
set_option linter.unusedVariables false
set_option linter.unusedSimpArgs false

def sumF (f : Nat → Int) : Nat → Int
  | 0 => 0
  | n + 1 => sumF f n + f n

set_option maxHeartbeats 4000000 in
theorem turned_calls (v : Int) (n : Nat) (w : World) (hn : n ≤ 64) : Calls Try.prog 31 #[.int .u64 v, .int .i64 n] w fun e w' => ∃ x : Int, e = .returned (.int .u64 x) ∧ w' = w := by
  go_enter Try.func31, Try.ntmps31
  go_wp2
  go_loop [0, 5, 7] (fun a o i => ∃ (x y : Int) (k : Nat), a = .int .u64 x ∧ o = .int .u64 y ∧ i = .int .i64 k ∧ k ≤ n) (fun _ _ i => n - (intOf i).toNat)
  case atStart => exact ⟨v, 0, 0, rfl, rfl, rfl, Nat.zero_le _⟩
  case round =>
    obtain ⟨x, y, k, rfl, rfl, rfl, hk⟩ := hrel
    by_cases hlt : k < n
    · have q1 : decide ((k : Int) < (n : Int)) = true := decide_eq_true (by omega)
      go_wp2
      go_round
      case rel => exact ⟨_, _, k + 1, rfl, rfl, by go_num, by omega⟩
      case measure => simp [intOf]; omega
    · obtain rfl : k = n := by omega
      have q1 : decide ((k : Int) < (k : Int)) = false := decide_eq_false (by omega)
      go_wp2
      go_ret
      exact ⟨⟨y, rfl⟩, rfl⟩

theorem idx16 (f : Nat → Int) (k : Nat) (h : k < 16) (W : World) : (Instr.index 44 (.agg #[Value.int .i64 (f 0), Value.int .i64 (f 1), Value.int .i64 (f 2), Value.int .i64 (f 3), Value.int .i64 (f 4), Value.int .i64 (f 5), Value.int .i64 (f 6), Value.int .i64 (f 7), Value.int .i64 (f 8), Value.int .i64 (f 9), Value.int .i64 (f 10), Value.int .i64 (f 11), Value.int .i64 (f 12), Value.int .i64 (f 13), Value.int .i64 (f 14), Value.int .i64 (f 15)]) (.int .i64 (k : Int))).run Try.prog W = .ok (.int .i64 (f k)) W := by
  rcases k with _ | _ | _ | _ | _ | _ | _ | _ | _ | _ | _ | _ | _ | _ | _ | _ | k
  any_goals (exfalso; omega)
  all_goals kernel_rfl

theorem sumF_bound (f : Nat → Int) (hf : ∀ m, 0 ≤ f m ∧ f m ≤ 288) : ∀ k, 0 ≤ sumF f k ∧ sumF f k ≤ k * 288
  | 0 => by simp [sumF]
  | k + 1 => by
    have h1 := sumF_bound f hf k
    have h2 := hf k
    rw [sumF]
    omega

set_option maxHeartbeats 4000000 in
theorem slack_calls (g : Nat) (sl wv sv : Value) (f : Nat → Int) (w : World) (hC : CodeAt w g sl wv sv f) (hf : ∀ m, 0 ≤ f m ∧ f m ≤ 288) :
    Calls Try.prog 20 #[.pointer (some ⟨g, 0, none⟩)] w fun e w' => e = .returned (.bool (decide (sumF f 16 = 0) || (decide (sumF f 16 = 1) && decide (f 1 = 1)))) ∧ w' = w := by
  obtain ⟨_, _, _, dm, _, _⟩ := hC.cell
  have e0 := dm 0 (by omega)
  have e1 := dm 1 (by omega)
  have e2 := dm 2 (by omega)
  have e3 := dm 3 (by omega)
  have e4 := dm 4 (by omega)
  have e5 := dm 5 (by omega)
  have e6 := dm 6 (by omega)
  have e7 := dm 7 (by omega)
  have e8 := dm 8 (by omega)
  have e9 := dm 9 (by omega)
  have e10 := dm 10 (by omega)
  have e11 := dm 11 (by omega)
  have e12 := dm 12 (by omega)
  have e13 := dm 13 (by omega)
  have e14 := dm 14 (by omega)
  have e15 := dm 15 (by omega)
  simp only [Nat.add_zero, Nat.reduceAdd] at e0 e1 e2 e3 e4 e5 e6 e7 e8 e9 e10 e11 e12 e13 e14 e15
  have HC := Lib.hid hC
  have HF := Lib.hid hf
  have HDM := Lib.hid dm
  clear hC hf dm
  go_enter Try.func20, Try.ntmps20
  go_wp2
  go_loop [3, 10] (fun s i => ∃ k : Nat, k ≤ 16 ∧ s = .int .i64 (sumF f k) ∧ i = .int .i64 k) (fun _ i => 16 - (intOf i).toNat)
  case atStart => exact ⟨0, Nat.zero_le _, rfl, rfl⟩
  case round =>
    obtain ⟨k, hk, rfl, rfl⟩ := hrel
    have hb1 := sumF_bound f HF.out k
    have hb2 := HF.out k
    have hs : sumF f (k + 1) = sumF f k + f k := rfl
    obtain ⟨s, hse⟩ : ∃ s, sumF f k = s := ⟨_, rfl⟩
    rw [hse] at hs hb1 ⊢
    have w1 : IntKind.i64.wrap (s + f k) = s + f k := by rw [IntKind.wrap_i64]; omega
    have HS := Lib.hid hs
    have HSE := Lib.hid hse
    clear hs hse
    by_cases hlt : k < 16
    · have f0 : (0 : Int) ≤ (k : Int) := by omega
      have f1 : (k : Int) < 16 := by omega
      have q1 : decide ((k : Int) < 16) = true := decide_eq_true f1
      have hix := idx16 f k hlt
      go_wp2
      go_round
      case rel => exact ⟨k + 1, by omega, by rw [HS.out], by go_num⟩
      case measure => simp [intOf]; omega
    · have hk16 : k = 16 := by omega
      have q1 : decide ((k : Int) < 16) = false := decide_eq_false (by omega)
      have HE : Hid (sumF f 16 = s) := Lib.hid (by rw [← hk16]; exact HSE.out)
      clear hk16
      cases h0 : (s == 0) with
      | true =>
        go_wp2
        go_ret
        have hz : s = 0 := by simpa using h0
        exact ⟨by rw [HE.out, hz] <;> rfl, rfl⟩
      | false =>
        have hz : ¬ s = 0 := by simpa using h0
        cases h1 : (s == 1) with
        | false =>
          have hz1 : ¬ s = 1 := by simpa using h1
          have HZ := Lib.hid hz
          have HZ1 := Lib.hid hz1
          clear hz hz1
          go_wp2
          go_ret
          exact ⟨by rw [HE.out, decide_eq_false HZ.out, decide_eq_false HZ1.out] <;> rfl, rfl⟩
        | true =>
          have hz1 : s = 1 := by simpa using h1
          have HZ := Lib.hid hz
          have HZ1 := Lib.hid hz1
          clear hz hz1
          obtain ⟨y, hy⟩ : ∃ y, f 1 = y := ⟨_, rfl⟩
          have e1' := e1
          rw [hy] at e1'
          clear e1
          have HY := Lib.hid hy
          clear hy
          cases h2 : (y == 1) with
          | false =>
            have hz2 : ¬ y = 1 := by simpa using h2
            have HZ2 := Lib.hid hz2
            clear hz2
            go_wp2
            go_ret
            exact ⟨by rw [HE.out, HY.out, decide_eq_false HZ.out, decide_eq_true HZ1.out, decide_eq_false HZ2.out] <;> rfl, rfl⟩
          | true =>
            have hz2 : y = 1 := by simpa using h2
            have HZ2 := Lib.hid hz2
            clear hz2
            go_wp2
            go_ret
            exact ⟨by rw [HE.out, HY.out, decide_eq_false HZ.out, decide_eq_true HZ1.out, decide_eq_true HZ2.out] <;> rfl, rfl⟩

end Go.Proofs.Ytnoplhjbachjiaa.Mg
