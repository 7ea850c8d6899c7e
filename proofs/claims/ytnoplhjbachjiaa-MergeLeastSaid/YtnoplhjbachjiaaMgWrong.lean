/-
  Merge: which counts may not be.
-/
import Derived.Test.YtnoplhjbachjiaaMgUsed
namespace Go.Proofs.Ytnoplhjbachjiaa.Mg
open Go.ChangeShapes Go.WideShapes Go.ChangeAt Go.RowKit Go.Shelf Go.Proofs
set_option linter.unusedVariables false
set_option linter.unusedSimpArgs false

def badB (x : Int) : Bool := decide (x < 0) || decide (1099511627776 < x)

theorem bad_calls (x : Int) (w : World) : Calls Try.prog 23 #[.int .i64 x] w fun e w' => e = .returned (.bool (badB x)) ∧ w' = w := by
  unfold badB
  by_cases h : x < 0
  · have h' : decide (x < 0) = true := decide_eq_true h
    clear h
    go_enter Try.func23, Try.ntmps23
    go_wp2
    go_ret
    exact ⟨by simp [h'], rfl⟩
  · have h' : decide (x < 0) = false := decide_eq_false h
    clear h
    go_enter Try.func23, Try.ntmps23
    go_wp2
    go_ret
    exact ⟨by simp [h'], rfl⟩

/-- The first place of a number that may not be; -1: none. -/
def firstBad (cs : List Int) : Int := match cs.findIdx? badB with | some k => k | none => -1

set_option maxHeartbeats 1000000 in
theorem indexfunc_calls (A : Option Addr) (c : Nat) (cs : List Int) (w : World) (hA : ∀ j (h : j < cs.length), ∃ g o, A = some ⟨g, o, none⟩ ∧ w.cell? ⟨g, o + j, none⟩ = some (.int .i64 cs[j])) (hl : cs.length ≤ 140737488351232) :
    Calls Try.prog 30 #[.slice A cs.length c, .func (.func 23) #[] #[]] w fun e w' => e = .returned (.int .i64 (firstBad cs)) ∧ w' = w := by
  obtain ⟨ans, ha⟩ : ∃ ans, ans = firstBad cs := ⟨_, rfl⟩
  rw [← ha]
  have HA := Lib.hid ha
  have HC := Lib.hid hA
  clear ha hA
  go_enter Try.func30, Try.ntmps30
  go_wp2
  go_loop [8] (fun i => ∃ k : Nat, k ≤ cs.length ∧ i = .int .i64 k ∧ ∀ j (h : j < cs.length), j < k → badB cs[j] = false) (fun i => cs.length - (intOf i).toNat)
  case atStart => exact ⟨0, Nat.zero_le _, rfl, fun j _ h => by omega⟩
  case round =>
    obtain ⟨k, hk, rfl, hb⟩ := hrel
    have HB := Lib.hid hb
    clear hb
    by_cases hlt : k < cs.length
    · have q1 : decide ((k : Int) < (cs.length : Int)) = true := decide_eq_true (by omega)
      obtain ⟨g, o, rfl, hcell⟩ := HC.out k hlt
      obtain ⟨x, hx⟩ : ∃ x, cs[k] = x := ⟨_, rfl⟩
      rw [hx] at hcell
      have HX := Lib.hid hx
      clear hx
      cases hbx : badB x with
      | true =>
        go_wp2_with (go_at_call 23; refine (bad_calls _ _).mono ?_; rintro e w' ⟨rfl, rfl⟩)
        go_ret
        refine ⟨?_, rfl⟩
        have : firstBad cs = k := by
          have h : cs.findIdx? badB = some k := by
            rw [List.findIdx?_eq_some_iff_getElem]
            exact ⟨hlt, by rw [HX.out]; exact hbx, fun j hj => by rw [HB.out j (by omega) hj]; simp⟩
          unfold firstBad
          rw [h]
        rw [HA.out, this] <;> rfl
      | false =>
        go_wp2_with (go_at_call 23; refine (bad_calls _ _).mono ?_; rintro e w' ⟨rfl, rfl⟩)
        go_round
        case rel =>
          refine ⟨k + 1, by omega, by go_num, fun j h hj => ?_⟩
          rcases Nat.lt_or_ge j k with h2 | h2
          · exact HB.out j h h2
          · obtain rfl : j = k := by omega
            rw [HX.out]; exact hbx
        case measure => simp [intOf]; omega
    · obtain rfl : k = cs.length := by omega
      have q1 : decide ((cs.length : Int) < (cs.length : Int)) = false := decide_eq_false (by omega)
      have : firstBad cs = -1 := by
        have h : cs.findIdx? badB = none := by
          rw [List.findIdx?_eq_none_iff]
          intro x hx
          obtain ⟨j, hj, rfl⟩ := List.mem_iff_getElem.1 hx
          exact HB.out j hj hj
        unfold firstBad
        rw [h]
      have HR := Lib.hid this
      clear this
      go_wp2
      go_ret
      exact ⟨by rw [HA.out, HR.out] <;> rfl, rfl⟩

theorem first_any (cs : List Int) : decide (0 ≤ firstBad cs) = cs.any badB := by
  unfold firstBad
  cases h : cs.findIdx? badB with
  | none =>
    have : cs.any badB = false := by
      rw [List.any_eq_false]
      intro x hx
      rw [List.findIdx?_eq_none_iff] at h
      simp [h x hx]
    rw [this]
    rfl
  | some k =>
    have : cs.any badB = true := by
      rw [List.findIdx?_eq_some_iff_getElem] at h
      obtain ⟨h1, h2, _⟩ := h
      rw [List.any_eq_true]
      exact ⟨_, List.getElem_mem h1, h2⟩
    rw [this]
    exact decide_eq_true (Int.natCast_nonneg k)

theorem contains_calls (A : Option Addr) (c : Nat) (cs : List Int) (w : World) (hA : ∀ j (h : j < cs.length), ∃ g o, A = some ⟨g, o, none⟩ ∧ w.cell? ⟨g, o + j, none⟩ = some (.int .i64 cs[j])) (hl : cs.length ≤ 140737488351232) :
    Calls Try.prog 17 #[.slice A cs.length c, .func (.func 23) #[] #[]] w fun e w' => e = .returned (.bool (cs.any badB)) ∧ w' = w := by
  have hf := first_any cs
  have HA := Lib.hid hA
  clear hA
  go_enter Try.func17, Try.ntmps17
  go_wp2_with (go_at_call 30; refine (indexfunc_calls A c cs _ HA.out hl).mono ?_; rintro e w' ⟨rfl, rfl⟩)
  go_ret
  exact ⟨by simp [hf], rfl⟩

/-- Counts or a bound that may not be. -/
def badArg (cs : List Int) (most : Int) : Bool := decide (288 < cs.length) || cs.any badB || decide (most < 1) || decide (15 < most)
def wrongE (cs : List Int) (most : Int) : Int := if badArg cs most then 1 else if (2 : Int) ^ most.toNat < (usedL cs).length then 11 else 0

/-- A slice of whole numbers, to be read. -/
def Reads (w : World) (A : Option Addr) (cs : List Int) : Prop := ∀ j (h : j < cs.length), ∃ g o, A = some ⟨g, o, none⟩ ∧ w.cell? ⟨g, o + j, none⟩ = some (.int .i64 cs[j])

set_option maxHeartbeats 2000000 in
theorem wrong_bad (A : Option Addr) (c : Nat) (cs : List Int) (most : Int) (w : World) (hA : Reads w A cs) (hl : cs.length ≤ 140737488351232) (hb : badArg cs most = true) :
    Calls Try.prog 12 #[.slice A cs.length c, .int .i64 most] w fun e w' => e = .returned (.int .i64 1) ∧ w' = w := by
  have HA := Lib.hid hA
  unfold badArg at hb
  clear hA
  by_cases h1 : 288 < cs.length
  · have t1 : decide (288 < (cs.length : Int)) = true := decide_eq_true (by omega)
    clear hb h1
    go_enter Try.func12, Try.ntmps12
    go_wp2
    go_ret
    exact ⟨rfl, rfl⟩
  · have t1 : decide (288 < (cs.length : Int)) = false := decide_eq_false (by omega)
    have u1 : decide (288 < cs.length) = false := decide_eq_false h1
    rw [u1, Bool.false_or] at hb
    clear u1 h1
    cases h2 : cs.any badB with
    | true =>
      clear hb
      go_enter Try.func12, Try.ntmps12
      go_wp2_with (go_at_call 17; refine (contains_calls A c cs _ HA.out hl).mono ?_; rintro e w' ⟨rfl, rfl⟩)
      go_ret
      exact ⟨rfl, rfl⟩
    | false =>
      rw [h2, Bool.false_or] at hb
      cases h3 : decide (most < 1) with
      | true =>
        clear hb
        go_enter Try.func12, Try.ntmps12
        go_wp2_with (go_at_call 17; refine (contains_calls A c cs _ HA.out hl).mono ?_; rintro e w' ⟨rfl, rfl⟩)
        go_ret
        exact ⟨rfl, rfl⟩
      | false =>
        rw [h3, Bool.false_or] at hb
        go_enter Try.func12, Try.ntmps12
        go_wp2_with (go_at_call 17; refine (contains_calls A c cs _ HA.out hl).mono ?_; rintro e w' ⟨rfl, rfl⟩)
        go_ret
        exact ⟨rfl, rfl⟩

/-- What 'used' answers. -/
def UsedAt (w w' : World) (cs : List Int) (e : Ending) : Prop :=
  ∃ (A : Option Addr) (cap : Nat), e = .returned (.slice A (usedL cs).length cap) ∧ Below w.heap.size w w' ∧
      ∀ j (h : j < (usedL cs).length), ∃ g', A = some ⟨g', 0, none⟩ ∧ w.heap.size ≤ g' ∧ w'.cell? ⟨g', j, none⟩ = some (encP (usedL cs)[j])

set_option maxHeartbeats 1000000 in
theorem used_empty (A : Option Addr) (c : Nat) (w : World) : Calls Try.prog 13 #[.slice A 0 c] w fun e w' => UsedAt w w' [] e := by
  have HB0 := Lib.hid ((Below.refl w.heap.size w).alloc (Nat.le_refl _) (.cells #[.slice A 0 c] 22))
  have cB : (w.alloc (.cells #[.slice A 0 c] 22)).cell? ⟨w.heap.size, 0, none⟩ = some (.slice A 0 c) := by
    simp only [World.cell?]
    rw [heap_new]
    rfl
  have HSO := Lib.hid (fun v W => AnyF.slices_SortFunc_none (P := Try.prog) { Try.laysSlF6_f24 with } none 0 v W)
  have HU : Hid (usedL [] = []) := Lib.hid (by simp [usedL, idxTo])
  obtain ⟨w1, hw⟩ : ∃ w1, w1 = w.alloc (.cells #[.slice A 0 c] 22) := ⟨_, rfl⟩
  go_enter Try.func13, Try.ntmps13
  go_wp2
  rw [← hw] at cB HB0 ⊢
  clear hw
  go_loopw [3, 8] (fun v i wr => v = .slice none 0 0 ∧ i = .int .i64 0 ∧ wr = w1) (fun _ _ _ => 0)
  case atStart => exact ⟨rfl, rfl, rfl⟩
  case round =>
    obtain ⟨rfl, rfl, rfl⟩ := hrel
    go_wp2_with (go_at_call 24; refine (HSO.out _ _).mono ?_; rintro e w3 ⟨rfl, rfl⟩)
    go_ret
    refine ⟨none, 0, by rw [HU.out] <;> rfl, HB0.out, fun j h => ?_⟩
    rw [HU.out] at h
    cases h

theorem used_any (A : Option Addr) (c : Nat) (cs : List Int) (w : World) (hl : cs.length ≤ 1000) (hA : Reads w A cs) : Calls Try.prog 13 #[.slice A cs.length c] w fun e w' => UsedAt w w' cs e := by
  by_cases h0 : 0 < cs.length
  · obtain ⟨g, o, rfl, _⟩ := hA 0 h0
    exact used_calls g o c cs w hl (fun j h => by obtain ⟨g', o', he, hc⟩ := hA j h; cases he; exact hc) h0
  · obtain rfl : cs = [] := List.eq_nil_of_length_eq_zero (by omega)
    exact used_empty A c w

end Go.Proofs.Ytnoplhjbachjiaa.Mg
