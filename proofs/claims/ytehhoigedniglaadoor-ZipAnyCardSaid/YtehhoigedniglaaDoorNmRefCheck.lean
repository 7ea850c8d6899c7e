/-
  Names: the reference's Check answers checkB, for every text.
-/
import Derived.Test.YtehhoigedniglaaDoorNmGood
import Derived.Test.YtehhoigedniglaaDoorNmParts
namespace Go.Proofs.YtehhoigedniglaaDoor.Nm
open Go.RowKit
set_option linter.unusedVariables false
set_option linter.unusedSimpArgs false

set_option maxHeartbeats 2000000 in
set_option maxRecDepth 100000 in
theorem refcheck_loop (s : ByteArray) (w : World) (hs : s.size ≤ 140737488351232) (h1 : 1 ≤ s.size) (h2 : s.size ≤ 65535) (hg : goodB s = true) :
    Calls Tryd.prog 28 #[.string s] w fun e w' => e = .returned (.bool (chk [] s.toList)) ∧ w = w' := by
  obtain ⟨ANS, HA⟩ : ∃ b, b = chk [] s.toList := ⟨_, rfl⟩
  rw [← HA]
  have HB := Lib.hid HA
  clear HA
  have z1 : decide ((s.size : Int) < 1) = false := decide_eq_false (by omega)
  have z2 : decide (65535 < (s.size : Int)) = false := decide_eq_false (by omega)
  go_enter Tryd.func28, Tryd.ntmps28
  go_wp2_with (go_at_call 39; refine (good_calls _ _ hs).mono ?_; rintro e w' ⟨rfl, rfl⟩)
  go_loop [3, 4] (fun p i => ∃ (k : Nat) (cur : ByteArray), k ≤ s.size + 1 ∧ p = .string cur ∧ i = .int .i64 k ∧ cur.size ≤ k ∧ (k ≤ s.size → chk cur.toList (s.toList.drop k) = ANS) ∧ (k = s.size + 1 → ANS = true)) (fun _ i => s.size + 1 - (intOf i).toNat)
  case atStart => exact ⟨0, ⟨#[]⟩, by omega, rfl, rfl, by rw [emp_size]; omega, fun _ => by rw [HB.out, emp_toList]; rfl, fun h => by omega⟩
  case round =>
    obtain ⟨k, cur, hk, rfl, rfl, hcs, hA, hB⟩ := hrel
    have HA := Lib.hid hA
    have HC := Lib.hid hB
    clear hA hB
    by_cases hlt : k < s.size
    · have q0 : decide ((k : Int) ≤ (s.size : Int)) = true := decide_eq_true (by omega)
      have q1 : decide ((k : Int) < (s.size : Int)) = true := decide_eq_true (by omega)
      have HD := Lib.hid (drop_at s k hlt)
      by_cases h47 : s[k] = 47
      · have q2 : ((s[k].toNat : Int) != 47) = false := by rw [h47]; rfl
        have HE : Hid (chk cur.toList (s.toList.drop k) = (goodPart cur.toList && chk [] (s.toList.drop (k + 1)))) := Lib.hid (by rw [HD.out, h47]; exact chk_slash _ _)
        clear h47
        by_cases hp : goodPart cur.toList = true
        · have HF : Hid (chk [] (s.toList.drop (k + 1)) = ANS) := Lib.hid (by rw [← HA.out (by omega), HE.out, hp]; rfl)
          obtain ⟨p0, p1, p2, p3⟩ := good_part hp
          clear HA HE
          go_wp2
          go_round
          case rel => exact ⟨k + 1, ⟨#[]⟩, by omega, rfl, by go_num, by rw [emp_size]; omega, fun _ => by rw [emp_toList]; exact HF.out, fun h => by omega⟩
          case measure => simp [intOf]; omega
        · have HF : Hid (ANS = false) := Lib.hid (by rw [← HA.out (by omega), HE.out]; simp [hp])
          clear HA HE
          rcases bad_part _ hp with ⟨p0, p1⟩ | ⟨p0, p1, p2⟩ | ⟨p0, p1, p2, p3⟩
          all_goals
            clear hp
            go_wp2
            go_ret
            exact ⟨by rw [HF.out] <;> rfl, rfl⟩
      · have q2 : ((s[k].toNat : Int) != 47) = true := by
          rw [bne_iff_ne]
          intro h
          exact h47 (UInt8.toNat_inj.1 (show s[k].toNat = 47 by omega))
        have HE := Lib.hid (push_one cur s k hlt)
        have HF : Hid (chk (cur.toList ++ [s[k]]) (s.toList.drop (k + 1)) = ANS) := Lib.hid (by rw [← HA.out (by omega), HD.out, chk_other _ _ _ h47])
        clear HA h47
        go_wp2
        go_round
        case rel => exact ⟨k + 1, cur ++ s.extract k (k + 1), by omega, by rfl, by go_num, by rw [HE.out.2]; omega, fun _ => by rw [HE.out.1]; exact HF.out, fun h => by omega⟩
        case measure => simp [intOf]; omega
    · by_cases heq : k = s.size
      · have q0 : decide ((k : Int) ≤ (s.size : Int)) = true := decide_eq_true (by omega)
        have q1 : decide ((k : Int) < (s.size : Int)) = false := decide_eq_false (by omega)
        have HE : Hid (ANS = goodPart cur.toList) := Lib.hid (by rw [← HA.out (by omega), drop_end s k (by omega), chk_nil])
        have hle : k ≤ s.size := by omega
        clear heq
        by_cases hp : goodPart cur.toList = true
        · have HF : Hid (ANS = true) := Lib.hid (by rw [HE.out, hp])
          obtain ⟨p0, p1, p2, p3⟩ := good_part hp
          clear HA HE
          go_wp2
          go_round
          case rel => exact ⟨k + 1, ⟨#[]⟩, by omega, rfl, by go_num, by rw [emp_size]; omega, fun h => by omega, fun _ => HF.out⟩
          case measure => simp [intOf]; omega
        · have HF : Hid (ANS = false) := Lib.hid (by rw [HE.out]; simpa using hp)
          clear HA HE
          rcases bad_part _ hp with ⟨p0, p1⟩ | ⟨p0, p1, p2⟩ | ⟨p0, p1, p2, p3⟩
          all_goals
            clear hp
            go_wp2
            go_ret
            exact ⟨by rw [HF.out] <;> rfl, rfl⟩
      · have q0 : decide ((k : Int) ≤ (s.size : Int)) = false := decide_eq_false (by omega)
        have HF : Hid (ANS = true) := Lib.hid (HC.out (by omega))
        go_wp2
        go_ret
        exact ⟨by rw [HF.out] <;> rfl, rfl⟩

set_option maxRecDepth 100000 in
theorem refcheck_calls (s : ByteArray) (w : World) (hs : s.size ≤ 140737488351232) :
    Calls Tryd.prog 28 #[.string s] w fun e w' => e = .returned (.bool (checkB s)) ∧ w = w' := by
  by_cases h1 : 1 ≤ s.size
  · by_cases h2 : s.size ≤ 65535
    · by_cases hg : goodB s = true
      · have e : checkB s = chk [] s.toList := by simp [checkB, h1, h2, hg]
        rw [e]
        exact refcheck_loop s w hs h1 h2 hg
      · have e : Hid (checkB s = false) := Lib.hid (by simp [checkB, hg])
        have hg' : goodB s = false := by simpa using hg
        have z1 : decide ((s.size : Int) < 1) = false := decide_eq_false (by omega)
        have z2 : decide (65535 < (s.size : Int)) = false := decide_eq_false (by omega)
        clear hg
        go_enter Tryd.func28, Tryd.ntmps28
        go_wp2_with (go_at_call 39; refine (good_calls _ _ hs).mono ?_; rintro e w' ⟨rfl, rfl⟩)
        go_ret
        exact ⟨by rw [e.out] <;> rfl, rfl⟩
    · have e : Hid (checkB s = false) := Lib.hid (by simp [checkB, h2])
      have z1 : decide ((s.size : Int) < 1) = false := decide_eq_false (by omega)
      have z2 : decide (65535 < (s.size : Int)) = true := decide_eq_true (by omega)
      clear h2
      go_enter Tryd.func28, Tryd.ntmps28
      go_wp2
      go_ret
      exact ⟨by rw [e.out] <;> rfl, rfl⟩
  · have e : Hid (checkB s = false) := Lib.hid (by simp [checkB, h1])
    have z1 : decide ((s.size : Int) < 1) = true := decide_eq_true (by omega)
    clear h1
    go_enter Tryd.func28, Tryd.ntmps28
    go_wp2
    go_ret
    exact ⟨by rw [e.out] <;> rfl, rfl⟩

end Go.Proofs.YtehhoigedniglaaDoor.Nm
