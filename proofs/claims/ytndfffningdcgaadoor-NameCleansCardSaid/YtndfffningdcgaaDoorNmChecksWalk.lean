/-
  NameChecks' walk: for every text and every directory's text the program answers as the reference.
-/
import Derived.Test.YtndfffningdcgaaDoorNmSpeaks
namespace Go.Proofs.YtndfffningdcgaaDoor.Nm
open Go.RowKit Go.Shelf
set_option linter.unusedVariables false
set_option linter.unusedSimpArgs false

def plk (s : ByteArray) (k : Nat) : Bool := (s.data.toList.take k).all fun c => decide (c.toNat < 128)
theorem plk_zero (s : ByteArray) : plk s 0 = true := rfl
theorem plk_all (s : ByteArray) (k : Nat) (h : ¬ k < s.size) : plk s k = plainB s := by
  unfold plk plainB
  rw [List.take_of_length_le]
  have : s.data.toList.length = s.size := rfl
  omega
theorem plk_succ (s : ByteArray) (k : Nat) (h : k < s.size) : plk s (k + 1) = (plk s k && decide ((s[k].toNat : Int) < 128)) := by
  have e : s.data.toList.take (k + 1) = s.data.toList.take k ++ [s[k]] := by
    rw [List.take_succ_eq_append_getElem (show k < s.data.toList.length from h)]
    rfl
  have e2 : decide (s[k].toNat < 128) = decide ((s[k].toNat : Int) < 128) := decide_eq_decide.2 (by omega)
  unfold plk
  rw [e, List.all_append]
  show (_ && (decide (s[k].toNat < 128) && true)) = _
  rw [Bool.and_true, e2]

theorem err_zero (b : Bool) : (errN b == 0) = b := by cases b <;> rfl
theorem err_nine (b : Bool) : (errN b == 9) = !b := by cases b <;> rfl

theorem below_drewN (w : World) (n : Nat) : Below w.heap.size w (w.drewN n) := by
  induction n with
  | zero => exact Below.refl _ _
  | succ n ih => rw [← World.drew_drewN]; exact ih.drew

set_option maxHeartbeats 1000000 in
set_option maxRecDepth 100000 in
theorem checks_walk (s d : ByteArray) (w : World) (hs : s.size ≤ 140737488351232) (hd : d.size ≤ 140737488351232) (hT : Tabs w) :
    Calls Tryd.prog 4 #[.string s, .string d] w fun e w' => e = .returned (.bool true) ∧ Below w.heap.size w w' := by
  have B0 := Lib.hid (Below.refl w.heap.size w)
  go_enter Tryd.func4, Tryd.ntmps4
  go_wp2_with (first | (go_at_call 8; refine (speaks_calls _ hT).mono ?_; rintro e w1 ⟨rfl, hb⟩; have hT1 := Tabs.below hT hb; replace B0 := Lib.hid (B0.out.trans (hb.mono B0.out.size)); clear hb))
  go_quiet (fail)
  have h1 : (s.extract 0 (min (s.size : Int) 2000).toNat).size ≤ 140737488351232 := by rw [ByteArray.size_extract]; omega
  have h2 : (d.extract 0 (min (d.size : Int) 200).toNat).size ≤ 140737488351232 := by rw [ByteArray.size_extract]; omega
  generalize s.extract 0 (min (s.size : Int) 2000).toNat = s2 at *
  generalize d.extract 0 (min (d.size : Int) 200).toNat = d2 at *
  generalize hW : World.drewN _ _ = w2
  have hT2 : Tabs w2 := by rw [← hW]; exact hT1.below (below_drewN _ _)
  have B2 : Hid (Below w.heap.size w w2) := Lib.hid (by rw [← hW]; exact B0.out.trans ((below_drewN _ _).mono B0.out.size))
  clear hW B0 hT1 hT hs hd
  go_wp2
  go_loop [5, 6] (fun p i => ∃ k : Nat, k ≤ s2.size ∧ i = .int .i64 k ∧ p = .bool (plk s2 k)) (fun _ i => s2.size - (intOf i).toNat)
  case atStart => exact ⟨0, Nat.zero_le _, rfl, rfl⟩
  case round =>
    obtain ⟨k, hk, rfl, rfl⟩ := hrel
    by_cases hlt : k < s2.size
    · have HS := Lib.hid (plk_succ s2 k hlt)
      cases hp : plk s2 k with
      | false =>
        have HQ : Hid (plk s2 (k + 1) = false) := Lib.hid (by rw [HS.out, hp]; rfl)
        clear hp
        go_wp2
        go_round
        case rel => exact ⟨k + 1, by omega, by go_num, by rw [HQ.out]⟩
        case measure => simp [intOf]; omega
      | true =>
        have HQ : Hid (plk s2 (k + 1) = decide ((s2[k].toNat : Int) < 128)) := Lib.hid (by rw [HS.out, hp]; rfl)
        clear hp
        go_wp2
        go_round
        case rel => exact ⟨k + 1, by omega, by go_num, by rw [HQ.out]⟩
        case measure => simp [intOf]; omega
    · have HP := Lib.hid (plk_all s2 k hlt)
      rw [HP.out]
      clear HP
      have v0 : errN true = 0 := rfl
      have v1 : errN false = 9 := rfl
      cases hc : checkB s2 with
      | false =>
        go_wp2_with (first | (go_at_call 9; refine (check_calls _ _ h1 (by assumption)).mono ?_; rintro e w3 ⟨rfl, hb⟩; have hT3 := Tabs.below (by assumption) hb; replace B2 := Lib.hid (B2.out.trans (hb.mono B2.out.size)); clear hb) | (go_at_call 10; refine (refcheck_calls _ _ h1).mono ?_; rintro e w' ⟨rfl, rfl⟩) | (go_at_call 11; refine (plain_calls _ _ (by unfold maxLen; omega)).mono ?_; rintro e w' ⟨rfl, rfl⟩) | (go_at_call 12; refine (below_calls _ _ _ h2).mono ?_; rintro e w' ⟨rfl, rfl⟩) | (go_at_call 13; refine (refbelow_calls _ _ _ h1 h2).mono ?_; rintro e w' ⟨rfl, rfl⟩))
        go_ret
        exact ⟨by simp, B2.out⟩
      | true =>
        go_wp2_with (first | (go_at_call 9; refine (check_calls _ _ h1 (by assumption)).mono ?_; rintro e w3 ⟨rfl, hb⟩; have hT3 := Tabs.below (by assumption) hb; replace B2 := Lib.hid (B2.out.trans (hb.mono B2.out.size)); clear hb) | (go_at_call 10; refine (refcheck_calls _ _ h1).mono ?_; rintro e w' ⟨rfl, rfl⟩) | (go_at_call 11; refine (plain_calls _ _ (by unfold maxLen; omega)).mono ?_; rintro e w' ⟨rfl, rfl⟩) | (go_at_call 12; refine (below_calls _ _ _ h2).mono ?_; rintro e w' ⟨rfl, rfl⟩) | (go_at_call 13; refine (refbelow_calls _ _ _ h1 h2).mono ?_; rintro e w' ⟨rfl, rfl⟩))
        go_ret
        exact ⟨by simp, B2.out⟩

end Go.Proofs.YtndfffningdcgaaDoor.Nm
