/-
  Serial, plain: near numbers, as pairs and as the widest pair; what stands in order is in order.
-/
import Derived.Test.YtebabhpbgcencaaSrSort2
namespace Go.Proofs.Ytebabhpbgcencaa.Sr
open Go.RowKit Go.Shelf Go.Proofs
set_option linter.unusedVariables false

theorem gap_self (z : Int) : gap z z = 0 := by
  rw [gap_eq]
  simp [wrap32]

theorem hi_ge (z : Int) (xs : List Int) : ∀ k, k ≤ xs.length → ∀ i (hi' : i < xs.length), i < k → gap z xs[i] ≤ hi z xs k
  | 0, _, i, _, h => by omega
  | k + 1, h, i, hi', hk => by
    have h1 := hi_ge z xs k (by omega) i hi'
    rw [hi_succ z xs k h]
    rcases Nat.lt_or_ge i k with h2 | h2
    · have := h1 h2; omega
    · obtain rfl : i = k := by omega
      omega

theorem lo_le (z : Int) (xs : List Int) : ∀ k, k ≤ xs.length → ∀ i (hi' : i < xs.length), i < k → lo z xs k ≤ gap z xs[i]
  | 0, _, i, _, h => by omega
  | k + 1, h, i, hi', hk => by
    have h1 := lo_le z xs k (by omega) i hi'
    rw [lo_succ z xs k h]
    rcases Nat.lt_or_ge i k with h2 | h2
    · have := h1 h2; omega
    · obtain rfl : i = k := by omega
      omega

theorem hi_at (z : Int) (xs : List Int) (h0 : 0 < xs.length) (hz : xs[0] = z) : ∀ k, k ≤ xs.length → ∃ i, ∃ h : i < xs.length, hi z xs k = gap z xs[i]
  | 0, _ => ⟨0, h0, by rw [hz, gap_self]; rfl⟩
  | k + 1, h => by
    obtain ⟨i, hi', e⟩ := hi_at z xs h0 hz k (by omega)
    rw [hi_succ z xs k h]
    rcases Int.le_total (hi z xs k) (gap z xs[k]) with h2 | h2
    · exact ⟨k, h, by omega⟩
    · exact ⟨i, hi', by omega⟩

theorem lo_at (z : Int) (xs : List Int) (h0 : 0 < xs.length) (hz : xs[0] = z) : ∀ k, k ≤ xs.length → ∃ i, ∃ h : i < xs.length, lo z xs k = gap z xs[i]
  | 0, _ => ⟨0, h0, by rw [hz, gap_self]; rfl⟩
  | k + 1, h => by
    obtain ⟨i, hi', e⟩ := lo_at z xs h0 hz k (by omega)
    rw [lo_succ z xs k h]
    rcases Int.le_total (lo z xs k) (gap z xs[k]) with h2 | h2
    · exact ⟨i, hi', by omega⟩
    · exact ⟨k, h, by omega⟩

/-- Each pair is near. -/
def Near (z : Int) (xs : List Int) (n : Nat) : Prop := ∀ i k (hi : i < xs.length) (hk : k < xs.length), i < n → gap z xs[i] - gap z xs[k] < 2147483648

theorem near_iff (z : Int) (xs : List Int) (h0 : 0 < xs.length) (hz : xs[0] = z) : farB z xs = false ↔ Near z xs xs.length := by
  unfold farB
  rw [decide_eq_false_iff_not]
  constructor
  · intro h i k hi hk _
    have h1 := hi_ge z xs xs.length (Nat.le_refl _) i hi hi
    have h2 := lo_le z xs xs.length (Nat.le_refl _) k hk hk
    omega
  · intro h
    obtain ⟨i, hi, e1⟩ := hi_at z xs h0 hz xs.length (Nat.le_refl _)
    obtain ⟨k, hk, e2⟩ := lo_at z xs h0 hz xs.length (Nat.le_refl _)
    have := h i k hi hk hi
    omega

theorem refgap_calls (a b : Int) (w : World) (ha : 0 ≤ a ∧ a < 4294967296) (hb : 0 ≤ b ∧ b < 4294967296) : Calls Try.prog 8 #[.int .u32 a, .int .u32 b] w fun e w' => e = .returned (.int .i64 (gap a b)) ∧ w' = w := by
  obtain ⟨h1, h2⟩ := ha
  obtain ⟨h3, h4⟩ := hb
  have e1 := gap_eq a b
  unfold wrap32 at e1
  have HG := Lib.hid e1
  clear e1
  by_cases c1 : b - a < 0
  · have d1 : decide (b - a < 0) = true := decide_eq_true c1
    by_cases c2 : 2147483648 ≤ b - a + 4294967296
    · have d2 : decide (2147483648 ≤ b - a + 4294967296) = true := decide_eq_true c2
      go_enter Try.func8, Try.ntmps8
      go_wp2
      go_ret
      have := HG.out
      have e : b - a = gap a b := by rw [this]; omega
      exact ⟨congrArg (fun x => Ending.returned (Value.int .i64 x)) e, rfl⟩
    · have d2 : decide (2147483648 ≤ b - a + 4294967296) = false := decide_eq_false c2
      go_enter Try.func8, Try.ntmps8
      go_wp2
      go_ret
      have := HG.out
      have e : b - a + 4294967296 = gap a b := by rw [this]; omega
      exact ⟨congrArg (fun x => Ending.returned (Value.int .i64 x)) e, rfl⟩
  · have d1 : decide (b - a < 0) = false := decide_eq_false c1
    by_cases c2 : 2147483648 ≤ b - a
    · have d2 : decide (2147483648 ≤ b - a) = true := decide_eq_true c2
      go_enter Try.func8, Try.ntmps8
      go_wp2
      go_ret
      have := HG.out
      have e : b - a - 4294967296 = gap a b := by rw [this]; omega
      exact ⟨congrArg (fun x => Ending.returned (Value.int .i64 x)) e, rfl⟩
    · have d2 : decide (2147483648 ≤ b - a) = false := decide_eq_false c2
      go_enter Try.func8, Try.ntmps8
      go_wp2
      go_ret
      have := HG.out
      have e : b - a = gap a b := by rw [this]; omega
      exact ⟨congrArg (fun x => Ending.returned (Value.int .i64 x)) e, rfl⟩

theorem less_same (a b : Int) (w : World) : Calls Try.prog 10 #[.int .u32 a, .int .u32 b] w fun e w' => e = .returned (.bool (less a b)) ∧ w' = w :=
  (less_calls a b w).mono fun _ _ ⟨h1, h2⟩ => ⟨h1, h2.symm⟩

/-- Of two near ones the one with the greater gap comes behind. -/
theorem less_of (z a b : Int) (ha : 0 ≤ a ∧ a < 4294967296) (hb : 0 ≤ b ∧ b < 4294967296) (h1 : gap z a ≤ gap z b) (h2 : gap z b - gap z a < 2147483648) (hne : a ≠ b) : less a b = true := by
  unfold less
  apply decide_eq_true
  rw [gap_eq] at *
  rw [gap_eq] at h1 h2
  unfold wrap32 at *
  omega

end Go.Proofs.Ytebabhpbgcencaa.Sr
