/-
  Names: speaks answers true; Below and the reference's Below answer alike.
-/
import Derived.Test.YtndfffningdcgaaDoorNmCheck
import Derived.Test.YtndfffningdcgaaDoorNmSmall
namespace Go.Proofs.YtndfffningdcgaaDoor.Nm
open Go.RowKit Go.Shelf
set_option linter.unusedVariables false
set_option linter.unusedSimpArgs false

theorem checkB_data (s : ByteArray) : checkB s = (decide (1 ≤ s.size) && decide (s.size ≤ 65535) && goodB s && chk [] s.data.toList) := by
  unfold checkB
  rw [Lib.toList_data]

theorem k1 : errN (checkB ⟨#[97, 47, 98]⟩) = 0 := by rw [checkB_data]; decide +kernel
theorem k2 : errN (checkB ⟨#[97, 47, 47, 98]⟩) = 9 := by rw [checkB_data]; decide +kernel
theorem k3 : errN (checkB ⟨#[46, 46]⟩) = 9 := by rw [checkB_data]; decide +kernel
theorem k4 : plainB ⟨#[97]⟩ = true := by decide +kernel
theorem k5 : plainB ⟨#[195, 169]⟩ = false := by decide +kernel
theorem k6 : errN (checkB ⟨#[195, 169]⟩) = 0 := by rw [checkB_data]; decide +kernel

set_option maxHeartbeats 1000000 in
theorem speaks_calls (w : World) (hT : Tabs w) : Calls Tryd.prog 8 #[] w fun e w' => e = .returned (.bool true) ∧ Below w.heap.size w w' := by
  have k1 := k1
  have k2 := k2
  have k3 := k3
  have k4 := k4
  have k5 := k5
  have k6 := k6
  have B0 := Lib.hid (Below.refl w.heap.size w)
  go_enter Tryd.func8, Tryd.ntmps8
  go_wp2_with (first | (go_at_call 9; refine (check_calls _ _ (by decide) (by assumption)).mono ?_; rintro e w1 ⟨rfl, hb⟩; have hT1 := Tabs.below (by assumption) hb; replace B0 := Lib.hid (B0.out.trans (hb.mono B0.out.size)); clear hb) | (go_at_call 11; refine (plain_calls _ _ (by decide)).mono ?_; rintro e w' ⟨rfl, rfl⟩))
  go_ret
  exact ⟨rfl, B0.out⟩

/-- Does a name begin with another one and a slash? -/
def belowB (s d : ByteArray) : Bool := Lib.hasPrefix s.data.toList (d.data.toList ++ [47])

theorem below_calls (s d : ByteArray) (w : World) (hd : d.size ≤ 140737488351232) :
    Calls Tryd.prog 12 #[.string s, .string d] w fun e w' => e = .returned (.bool (belowB s d)) ∧ w = w' := by
  have HE : Hid (Lib.hasPrefix s.data.toList (d ++ ⟨#[47]⟩ : ByteArray).data.toList = belowB s d) := Lib.hid (by unfold belowB; rw [ByteArray.data_append, Array.toList_append])
  go_enter Tryd.func12, Tryd.ntmps12
  go_wp2_with (go_at_call 25; refine (Tryd.strings_HasPrefix _ _ _).mono ?_; rintro e w' ⟨rfl, hw⟩; obtain rfl := hw)
  go_ret
  exact ⟨by rw [← HE.out] <;> rfl, rfl⟩

theorem below_iff (s d : ByteArray) : belowB s d = true ↔ s.data.toList.take d.size = d.data.toList ∧ s.data.toList[d.size]? = some 47 := by
  unfold belowB Lib.hasPrefix
  have hd : d.data.toList.length = d.size := rfl
  rw [List.isPrefixOf_iff_prefix, List.prefix_iff_eq_take, List.length_append, List.length_singleton, hd, List.take_add_one]
  constructor
  · intro h
    by_cases hl : d.size ≤ s.data.toList.length
    · have h1 := List.append_inj h (by rw [List.length_take, hd]; omega)
      refine ⟨h1.1.symm, ?_⟩
      cases hx : s.data.toList[d.size]? with
      | none => rw [hx] at h1; simp at h1
      | some x => rw [hx] at h1; simp at h1; rw [← h1.2]
    · have := congrArg List.length h
      rw [List.getElem?_eq_none (by omega)] at this
      simp only [List.length_append, List.length_singleton, List.length_take, hd, Option.toList_none, List.length_nil] at this
      omega
  · rintro ⟨h1, h2⟩
    rw [h1, h2]
    rfl

theorem extract_take (s : ByteArray) (n : Nat) : (s.extract 0 n).toList = s.data.toList.take n := by
  rw [Lib.toList_data, ByteArray.data_extract, Array.toList_extract, List.extract_eq_take_drop]
  simp

set_option maxHeartbeats 1000000 in
theorem refbelow_calls (s d : ByteArray) (w : World) (hs : s.size ≤ 140737488351232) (hd : d.size ≤ 140737488351232) :
    Calls Tryd.prog 13 #[.string s, .string d] w fun e w' => e = .returned (.bool (belowB s d)) ∧ w = w' := by
  have hl : s.data.toList.length = s.size := rfl
  by_cases h1 : d.size < s.size
  · have t1 : decide ((d.size : Int) < (s.size : Int)) = true := decide_eq_true (by omega)
    by_cases h2 : (s.extract 0 d.size).toList = d.toList
    · have h2b : ((s.extract 0 d.size).toList == d.toList) = true := beq_iff_eq.2 h2
      have hx : s.data.toList[d.size]? = some s[d.size] := by rw [List.getElem?_eq_getElem (by rw [hl]; exact h1)]; rfl
      by_cases h3 : s[d.size] = 47
      · have e : Hid (belowB s d = true) := Lib.hid ((below_iff s d).2 ⟨by rw [← extract_take, h2, Lib.toList_data], by rw [hx, h3]⟩)
        have t3 : ((s[d.size].toNat : Int) == 47) = true := by rw [h3]; rfl
        clear h2 hx h3 hl
        go_enter Tryd.func13, Tryd.ntmps13
        go_wp2
        go_ret
        exact ⟨by rw [e.out] <;> rfl, rfl⟩
      · have e : Hid (belowB s d = false) := Lib.hid (by
          rw [Bool.eq_false_iff]
          intro h
          have := ((below_iff s d).1 h).2
          rw [hx] at this
          exact h3 (Option.some.inj this))
        have t3 : ((s[d.size].toNat : Int) == 47) = false := by
          rw [beq_eq_false_iff_ne]
          intro h
          exact h3 (UInt8.toNat_inj.1 (show s[d.size].toNat = 47 by omega))
        clear h2 hx h3 hl
        go_enter Tryd.func13, Tryd.ntmps13
        go_wp2
        go_ret
        exact ⟨by rw [e.out] <;> rfl, rfl⟩
    · have e : Hid (belowB s d = false) := Lib.hid (by
        rw [Bool.eq_false_iff]
        intro h
        exact h2 (by rw [extract_take, ((below_iff s d).1 h).1, Lib.toList_data]))
      have h2b : ((s.extract 0 d.size).toList == d.toList) = false := beq_eq_false_iff_ne.2 h2
      clear h2 hl
      go_enter Tryd.func13, Tryd.ntmps13
      go_wp2
      go_ret
      exact ⟨by rw [e.out] <;> rfl, rfl⟩
  · have e : Hid (belowB s d = false) := Lib.hid (by
      rw [Bool.eq_false_iff]
      intro h
      have := ((below_iff s d).1 h).2
      rw [List.getElem?_eq_none (by rw [hl]; omega)] at this
      cases this)
    have t1 : decide ((d.size : Int) < (s.size : Int)) = false := decide_eq_false (by omega)
    clear hl
    go_enter Tryd.func13, Tryd.ntmps13
    go_wp2
    go_ret
    exact ⟨by rw [e.out] <;> rfl, rfl⟩

end Go.Proofs.YtndfffningdcgaaDoor.Nm
